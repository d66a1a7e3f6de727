/- BloomSets: for every input the law returns true, and each argument reads behind the call as it read before. -/
import Derived.Test.YtmkakofnabfinaaZBS5
import Derived.KernelRfl
section
set_option linter.unusedVariables false
set_option linter.unusedSimpArgs false
namespace Go.Proofs.Ytmkakofnabfinaa.P
open Go.RowKit Go.Proofs.YtmkakofnabfinaaW.PrintWords Go.Proofs.YtmkakofnabfinaaW.PrintLast Go.Proofs.YtmkakofnabfinaaW.PrintMore
attribute [local go_sem] max2_int min2_int max_two min_two max_three min_three max_four min_four
set_option linter.unusedVariables false
set_option linter.unusedSimpArgs false
def gouachelaw10_lives.f (k : Nat)  : Option (Bool) := (some (([(([(⟨1, (⟨#[97]⟩ : ByteArray), 0, (⟨#[]⟩ : ByteArray), 0, 0, (⟨none, 0, 0⟩ : SV)⟩ : S124)] : List (S124))), (([(⟨1, (⟨#[98]⟩ : ByteArray), 0, (⟨#[]⟩ : ByteArray), 0, 0, (⟨none, 0, 0⟩ : SV)⟩ : S124)] : List (S124))), (([(⟨1, (⟨#[98]⟩ : ByteArray), 0, (⟨#[]⟩ : ByteArray), 0, 0, (⟨none, 0, 0⟩ : SV)⟩ : S124)] : List (S124)))] : List (List (S124))) : List (List (S124)))).bind fun y112 => ((some (([2, 3] : List Int) : List Int)).bind fun y115 => ((bloom_Needs.f k y112 y115).bind fun t119 => ((bloom_Key.f 1 (⟨#[97]⟩ : ByteArray)).bind fun t122 => ((gouacheref10_Same.f k t119 (([t122] : List Int))).bind fun t126 => (if t126 = true then ((bloom_Skip.f k 0 0 0 0 y112 y115).bind fun t127 => (if t127 = true then ((bloom_Skip.f k 0 0 0 0 (([(([(⟨1, (⟨#[98]⟩ : ByteArray), 0, (⟨#[]⟩ : ByteArray), 0, 0, (⟨none, 0, 0⟩ : SV)⟩ : S124)] : List (S124)))] : List (List (S124)))) ([] : List Int)).bind fun t134 => (if t134 = true then (none) else ((bloom_Key.f 1 (⟨#[97]⟩ : ByteArray)).bind fun t135 => ((gouacheref10_Key.f k 1 (⟨#[97]⟩ : ByteArray)).bind fun t136 => (some (t135 == t136)))))) else (none))) else (none))))))
theorem gouachelaw10_lives.mono : ∀ k, LeO (gouachelaw10_lives.f k ) (gouachelaw10_lives.f (k + 1) ) := by
  intro  k
  unfold gouachelaw10_lives.f
  repeat' first
      | (with_reducible exact bloom_Needs.mono _ _ _)
      | (with_reducible exact bloom_Skip.mono _ _ _ _ _ _ _)
      | (with_reducible exact gouacheref10_Key.mono _ _ _)
      | (with_reducible exact gouacheref10_Same.mono _ _ _)
      | (with_reducible exact LeO.refl _)
      | (with_reducible exact LeO.none _)
      | (with_reducible refine LeO.ite ?_ ?_)
      | (with_reducible refine LeO.bind ?_ (fun _ => ?_))
      | exact bloom_Needs.mono _ _ _
      | exact bloom_Skip.mono _ _ _ _ _ _ _
      | exact gouacheref10_Key.mono _ _ _
      | exact gouacheref10_Same.mono _ _ _
      | exact LeO.none _
      | refine LeO.ite ?_ ?_
      | refine LeO.bind ?_ (fun _ => ?_)
set_option maxHeartbeats 8000000 in
set_option maxRecDepth 100000 in
theorem gouachelaw10_lives.calls (k : Nat)  (r : Bool) (w : World) (h : gouachelaw10_lives.f k  = some r) :
    Calls Try.prog 32 #[] w fun e w' => e = .returned (.bool r) ∧ Below w.heap.size w w' := by
  have hu124 := Try.underlying124
  have hu82 := Try.underlying82
  have hu74 := Try.underlying74
  have HB := Aside0.mk (Below.refl w.heap.size w)
  have H : ((some (([(([(⟨1, (⟨#[97]⟩ : ByteArray), 0, (⟨#[]⟩ : ByteArray), 0, 0, (⟨none, 0, 0⟩ : SV)⟩ : S124)] : List (S124))), (([(⟨1, (⟨#[98]⟩ : ByteArray), 0, (⟨#[]⟩ : ByteArray), 0, 0, (⟨none, 0, 0⟩ : SV)⟩ : S124)] : List (S124))), (([(⟨1, (⟨#[98]⟩ : ByteArray), 0, (⟨#[]⟩ : ByteArray), 0, 0, (⟨none, 0, 0⟩ : SV)⟩ : S124)] : List (S124)))] : List (List (S124))) : List (List (S124)))).bind fun y112 => ((some (([2, 3] : List Int) : List Int)).bind fun y115 => ((bloom_Needs.f k y112 y115).bind fun t119 => ((bloom_Key.f 1 (⟨#[97]⟩ : ByteArray)).bind fun t122 => ((gouacheref10_Same.f k t119 (([t122] : List Int))).bind fun t126 => (if t126 = true then ((bloom_Skip.f k 0 0 0 0 y112 y115).bind fun t127 => (if t127 = true then ((bloom_Skip.f k 0 0 0 0 (([(([(⟨1, (⟨#[98]⟩ : ByteArray), 0, (⟨#[]⟩ : ByteArray), 0, 0, (⟨none, 0, 0⟩ : SV)⟩ : S124)] : List (S124)))] : List (List (S124)))) ([] : List Int)).bind fun t134 => (if t134 = true then (none) else ((bloom_Key.f 1 (⟨#[97]⟩ : ByteArray)).bind fun t135 => ((gouacheref10_Key.f k 1 (⟨#[97]⟩ : ByteArray)).bind fun t136 => (some (t135 == t136)))))) else (none))) else (none))))))) = some r := h
  clear h
  obtain ⟨y103, hy103⟩ : ∃ y_ : List (S124), y_ = (([(⟨1, (⟨#[97]⟩ : ByteArray), 0, (⟨#[]⟩ : ByteArray), 0, 0, (⟨none, 0, 0⟩ : SV)⟩ : S124)] : List (S124))) := ⟨_, rfl⟩
  replace H : ((some (([y103, (([(⟨1, (⟨#[98]⟩ : ByteArray), 0, (⟨#[]⟩ : ByteArray), 0, 0, (⟨none, 0, 0⟩ : SV)⟩ : S124)] : List (S124))), (([(⟨1, (⟨#[98]⟩ : ByteArray), 0, (⟨#[]⟩ : ByteArray), 0, 0, (⟨none, 0, 0⟩ : SV)⟩ : S124)] : List (S124)))] : List (List (S124))) : List (List (S124)))).bind fun y112 => ((some (([2, 3] : List Int) : List Int)).bind fun y115 => ((bloom_Needs.f k y112 y115).bind fun t119 => ((bloom_Key.f 1 (⟨#[97]⟩ : ByteArray)).bind fun t122 => ((gouacheref10_Same.f k t119 (([t122] : List Int))).bind fun t126 => (if t126 = true then ((bloom_Skip.f k 0 0 0 0 y112 y115).bind fun t127 => (if t127 = true then ((bloom_Skip.f k 0 0 0 0 (([(([(⟨1, (⟨#[98]⟩ : ByteArray), 0, (⟨#[]⟩ : ByteArray), 0, 0, (⟨none, 0, 0⟩ : SV)⟩ : S124)] : List (S124)))] : List (List (S124)))) ([] : List Int)).bind fun t134 => (if t134 = true then (none) else ((bloom_Key.f 1 (⟨#[97]⟩ : ByteArray)).bind fun t135 => ((gouacheref10_Key.f k 1 (⟨#[97]⟩ : ByteArray)).bind fun t136 => (some (t135 == t136)))))) else (none))) else (none))))))) = some r := by first | (rw [hy103]; with_reducible exact H) | (have H2_ := (Option.bind_some _ _).symm.trans H; rw [hy103]; with_reducible exact H2_) | (have H2_ := (Option.bind_some _ _).symm.trans H; with_reducible exact H2_) | with_reducible exact H | (rw [hy103]; exact H) | exact H
  have Ny103 := Aside0.mk hy103
  clear hy103
  obtain ⟨y106, hy106⟩ : ∃ y_ : List (S124), y_ = (([(⟨1, (⟨#[98]⟩ : ByteArray), 0, (⟨#[]⟩ : ByteArray), 0, 0, (⟨none, 0, 0⟩ : SV)⟩ : S124)] : List (S124))) := ⟨_, rfl⟩
  replace H : ((some (([y103, y106, (([(⟨1, (⟨#[98]⟩ : ByteArray), 0, (⟨#[]⟩ : ByteArray), 0, 0, (⟨none, 0, 0⟩ : SV)⟩ : S124)] : List (S124)))] : List (List (S124))) : List (List (S124)))).bind fun y112 => ((some (([2, 3] : List Int) : List Int)).bind fun y115 => ((bloom_Needs.f k y112 y115).bind fun t119 => ((bloom_Key.f 1 (⟨#[97]⟩ : ByteArray)).bind fun t122 => ((gouacheref10_Same.f k t119 (([t122] : List Int))).bind fun t126 => (if t126 = true then ((bloom_Skip.f k 0 0 0 0 y112 y115).bind fun t127 => (if t127 = true then ((bloom_Skip.f k 0 0 0 0 (([(([(⟨1, (⟨#[98]⟩ : ByteArray), 0, (⟨#[]⟩ : ByteArray), 0, 0, (⟨none, 0, 0⟩ : SV)⟩ : S124)] : List (S124)))] : List (List (S124)))) ([] : List Int)).bind fun t134 => (if t134 = true then (none) else ((bloom_Key.f 1 (⟨#[97]⟩ : ByteArray)).bind fun t135 => ((gouacheref10_Key.f k 1 (⟨#[97]⟩ : ByteArray)).bind fun t136 => (some (t135 == t136)))))) else (none))) else (none))))))) = some r := by first | (rw [hy106]; with_reducible exact H) | (have H2_ := (Option.bind_some _ _).symm.trans H; rw [hy106]; with_reducible exact H2_) | (have H2_ := (Option.bind_some _ _).symm.trans H; with_reducible exact H2_) | with_reducible exact H | (rw [hy106]; exact H) | exact H
  have Ny106 := Aside0.mk hy106
  clear hy106
  obtain ⟨y109, hy109⟩ : ∃ y_ : List (S124), y_ = (([(⟨1, (⟨#[98]⟩ : ByteArray), 0, (⟨#[]⟩ : ByteArray), 0, 0, (⟨none, 0, 0⟩ : SV)⟩ : S124)] : List (S124))) := ⟨_, rfl⟩
  replace H : ((some (([y103, y106, y109] : List (List (S124))) : List (List (S124)))).bind fun y112 => ((some (([2, 3] : List Int) : List Int)).bind fun y115 => ((bloom_Needs.f k y112 y115).bind fun t119 => ((bloom_Key.f 1 (⟨#[97]⟩ : ByteArray)).bind fun t122 => ((gouacheref10_Same.f k t119 (([t122] : List Int))).bind fun t126 => (if t126 = true then ((bloom_Skip.f k 0 0 0 0 y112 y115).bind fun t127 => (if t127 = true then ((bloom_Skip.f k 0 0 0 0 (([(([(⟨1, (⟨#[98]⟩ : ByteArray), 0, (⟨#[]⟩ : ByteArray), 0, 0, (⟨none, 0, 0⟩ : SV)⟩ : S124)] : List (S124)))] : List (List (S124)))) ([] : List Int)).bind fun t134 => (if t134 = true then (none) else ((bloom_Key.f 1 (⟨#[97]⟩ : ByteArray)).bind fun t135 => ((gouacheref10_Key.f k 1 (⟨#[97]⟩ : ByteArray)).bind fun t136 => (some (t135 == t136)))))) else (none))) else (none))))))) = some r := by first | (rw [hy109]; with_reducible exact H) | (have H2_ := (Option.bind_some _ _).symm.trans H; rw [hy109]; with_reducible exact H2_) | (have H2_ := (Option.bind_some _ _).symm.trans H; with_reducible exact H2_) | with_reducible exact H | (rw [hy109]; exact H) | exact H
  have Ny109 := Aside0.mk hy109
  clear hy109
  obtain ⟨y112, hy112⟩ : ∃ y_ : List (List (S124)), y_ = (([y103, y106, y109] : List (List (S124)))) := ⟨_, rfl⟩
  replace H : ((some (([2, 3] : List Int) : List Int)).bind fun y115 => ((bloom_Needs.f k y112 y115).bind fun t119 => ((bloom_Key.f 1 (⟨#[97]⟩ : ByteArray)).bind fun t122 => ((gouacheref10_Same.f k t119 (([t122] : List Int))).bind fun t126 => (if t126 = true then ((bloom_Skip.f k 0 0 0 0 y112 y115).bind fun t127 => (if t127 = true then ((bloom_Skip.f k 0 0 0 0 (([(([(⟨1, (⟨#[98]⟩ : ByteArray), 0, (⟨#[]⟩ : ByteArray), 0, 0, (⟨none, 0, 0⟩ : SV)⟩ : S124)] : List (S124)))] : List (List (S124)))) ([] : List Int)).bind fun t134 => (if t134 = true then (none) else ((bloom_Key.f 1 (⟨#[97]⟩ : ByteArray)).bind fun t135 => ((gouacheref10_Key.f k 1 (⟨#[97]⟩ : ByteArray)).bind fun t136 => (some (t135 == t136)))))) else (none))) else (none)))))) = some r := by first | (rw [hy112]; with_reducible exact H) | (have H2_ := (Option.bind_some _ _).symm.trans H; rw [hy112]; with_reducible exact H2_) | (have H2_ := (Option.bind_some _ _).symm.trans H; with_reducible exact H2_) | with_reducible exact H | (rw [hy112]; exact H) | exact H
  have Ny112 := Aside0.mk hy112
  clear hy112
  obtain ⟨y115, hy115⟩ : ∃ y_ : List Int, y_ = (([2, 3] : List Int)) := ⟨_, rfl⟩
  replace H : ((bloom_Needs.f k y112 y115).bind fun t119 => ((bloom_Key.f 1 (⟨#[97]⟩ : ByteArray)).bind fun t122 => ((gouacheref10_Same.f k t119 (([t122] : List Int))).bind fun t126 => (if t126 = true then ((bloom_Skip.f k 0 0 0 0 y112 y115).bind fun t127 => (if t127 = true then ((bloom_Skip.f k 0 0 0 0 (([(([(⟨1, (⟨#[98]⟩ : ByteArray), 0, (⟨#[]⟩ : ByteArray), 0, 0, (⟨none, 0, 0⟩ : SV)⟩ : S124)] : List (S124)))] : List (List (S124)))) ([] : List Int)).bind fun t134 => (if t134 = true then (none) else ((bloom_Key.f 1 (⟨#[97]⟩ : ByteArray)).bind fun t135 => ((gouacheref10_Key.f k 1 (⟨#[97]⟩ : ByteArray)).bind fun t136 => (some (t135 == t136)))))) else (none))) else (none))))) = some r := by first | (rw [hy115]; with_reducible exact H) | (have H2_ := (Option.bind_some _ _).symm.trans H; rw [hy115]; with_reducible exact H2_) | (have H2_ := (Option.bind_some _ _).symm.trans H; with_reducible exact H2_) | with_reducible exact H | (rw [hy115]; exact H) | exact H
  have Ny115 := Aside0.mk hy115
  clear hy115
  replace H := Option.bind_eq_some_iff.mp H
  obtain ⟨t119, A10, H⟩ := H
  replace H : ((bloom_Key.f 1 (⟨#[97]⟩ : ByteArray)).bind fun t122 => ((gouacheref10_Same.f k t119 (([t122] : List Int))).bind fun t126 => (if t126 = true then ((bloom_Skip.f k 0 0 0 0 y112 y115).bind fun t127 => (if t127 = true then ((bloom_Skip.f k 0 0 0 0 (([(([(⟨1, (⟨#[98]⟩ : ByteArray), 0, (⟨#[]⟩ : ByteArray), 0, 0, (⟨none, 0, 0⟩ : SV)⟩ : S124)] : List (S124)))] : List (List (S124)))) ([] : List Int)).bind fun t134 => (if t134 = true then (none) else ((bloom_Key.f 1 (⟨#[97]⟩ : ByteArray)).bind fun t135 => ((gouacheref10_Key.f k 1 (⟨#[97]⟩ : ByteArray)).bind fun t136 => (some (t135 == t136)))))) else (none))) else (none)))) = some r := H
  have A1 := Aside0.mk A10
  clear A10
  replace H := Option.bind_eq_some_iff.mp H
  obtain ⟨t122, A20, H⟩ := H
  replace H : ((gouacheref10_Same.f k t119 (([t122] : List Int))).bind fun t126 => (if t126 = true then ((bloom_Skip.f k 0 0 0 0 y112 y115).bind fun t127 => (if t127 = true then ((bloom_Skip.f k 0 0 0 0 (([(([(⟨1, (⟨#[98]⟩ : ByteArray), 0, (⟨#[]⟩ : ByteArray), 0, 0, (⟨none, 0, 0⟩ : SV)⟩ : S124)] : List (S124)))] : List (List (S124)))) ([] : List Int)).bind fun t134 => (if t134 = true then (none) else ((bloom_Key.f 1 (⟨#[97]⟩ : ByteArray)).bind fun t135 => ((gouacheref10_Key.f k 1 (⟨#[97]⟩ : ByteArray)).bind fun t136 => (some (t135 == t136)))))) else (none))) else (none))) = some r := H
  have A2 := Aside0.mk A20
  clear A20
  obtain ⟨y123, hy123⟩ : ∃ y_ : List Int, y_ = (([t122] : List Int)) := ⟨_, rfl⟩
  replace H : ((gouacheref10_Same.f k t119 y123).bind fun t126 => (if t126 = true then ((bloom_Skip.f k 0 0 0 0 y112 y115).bind fun t127 => (if t127 = true then ((bloom_Skip.f k 0 0 0 0 (([(([(⟨1, (⟨#[98]⟩ : ByteArray), 0, (⟨#[]⟩ : ByteArray), 0, 0, (⟨none, 0, 0⟩ : SV)⟩ : S124)] : List (S124)))] : List (List (S124)))) ([] : List Int)).bind fun t134 => (if t134 = true then (none) else ((bloom_Key.f 1 (⟨#[97]⟩ : ByteArray)).bind fun t135 => ((gouacheref10_Key.f k 1 (⟨#[97]⟩ : ByteArray)).bind fun t136 => (some (t135 == t136)))))) else (none))) else (none))) = some r := by first | (rw [hy123]; with_reducible exact H) | (have H2_ := (Option.bind_some _ _).symm.trans H; rw [hy123]; with_reducible exact H2_) | (have H2_ := (Option.bind_some _ _).symm.trans H; with_reducible exact H2_) | with_reducible exact H | (rw [hy123]; exact H) | exact H
  have Ny123 := Aside0.mk hy123
  clear hy123
  replace H := Option.bind_eq_some_iff.mp H
  obtain ⟨t126, A30, H⟩ := H
  replace H : (if t126 = true then ((bloom_Skip.f k 0 0 0 0 y112 y115).bind fun t127 => (if t127 = true then ((bloom_Skip.f k 0 0 0 0 (([(([(⟨1, (⟨#[98]⟩ : ByteArray), 0, (⟨#[]⟩ : ByteArray), 0, 0, (⟨none, 0, 0⟩ : SV)⟩ : S124)] : List (S124)))] : List (List (S124)))) ([] : List Int)).bind fun t134 => (if t134 = true then (none) else ((bloom_Key.f 1 (⟨#[97]⟩ : ByteArray)).bind fun t135 => ((gouacheref10_Key.f k 1 (⟨#[97]⟩ : ByteArray)).bind fun t136 => (some (t135 == t136)))))) else (none))) else (none)) = some r := H
  have A3 := Aside0.mk A30
  clear A30
  by_cases c4 : t126 = true
  · subst c4
    have H1 : ((bloom_Skip.f k 0 0 0 0 y112 y115).bind fun t127 => (if t127 = true then ((bloom_Skip.f k 0 0 0 0 (([(([(⟨1, (⟨#[98]⟩ : ByteArray), 0, (⟨#[]⟩ : ByteArray), 0, 0, (⟨none, 0, 0⟩ : SV)⟩ : S124)] : List (S124)))] : List (List (S124)))) ([] : List Int)).bind fun t134 => (if t134 = true then (none) else ((bloom_Key.f 1 (⟨#[97]⟩ : ByteArray)).bind fun t135 => ((gouacheref10_Key.f k 1 (⟨#[97]⟩ : ByteArray)).bind fun t136 => (some (t135 == t136)))))) else (none))) = some r := by rw [if_pos rfl] at H; exact H
    clear H
    have H := H1
    clear H1
    replace H := Option.bind_eq_some_iff.mp H
    obtain ⟨t127, A50, H⟩ := H
    replace H : (if t127 = true then ((bloom_Skip.f k 0 0 0 0 (([(([(⟨1, (⟨#[98]⟩ : ByteArray), 0, (⟨#[]⟩ : ByteArray), 0, 0, (⟨none, 0, 0⟩ : SV)⟩ : S124)] : List (S124)))] : List (List (S124)))) ([] : List Int)).bind fun t134 => (if t134 = true then (none) else ((bloom_Key.f 1 (⟨#[97]⟩ : ByteArray)).bind fun t135 => ((gouacheref10_Key.f k 1 (⟨#[97]⟩ : ByteArray)).bind fun t136 => (some (t135 == t136)))))) else (none)) = some r := H
    have A5 := Aside0.mk A50
    clear A50
    by_cases c6 : t127 = true
    · subst c6
      have H1 : ((bloom_Skip.f k 0 0 0 0 (([(([(⟨1, (⟨#[98]⟩ : ByteArray), 0, (⟨#[]⟩ : ByteArray), 0, 0, (⟨none, 0, 0⟩ : SV)⟩ : S124)] : List (S124)))] : List (List (S124)))) ([] : List Int)).bind fun t134 => (if t134 = true then (none) else ((bloom_Key.f 1 (⟨#[97]⟩ : ByteArray)).bind fun t135 => ((gouacheref10_Key.f k 1 (⟨#[97]⟩ : ByteArray)).bind fun t136 => (some (t135 == t136)))))) = some r := by rw [if_pos rfl] at H; exact H
      clear H
      have H := H1
      clear H1
      obtain ⟨y128, hy128⟩ : ∃ y_ : List (S124), y_ = (([(⟨1, (⟨#[98]⟩ : ByteArray), 0, (⟨#[]⟩ : ByteArray), 0, 0, (⟨none, 0, 0⟩ : SV)⟩ : S124)] : List (S124))) := ⟨_, rfl⟩
      replace H : ((bloom_Skip.f k 0 0 0 0 (([y128] : List (List (S124)))) ([] : List Int)).bind fun t134 => (if t134 = true then (none) else ((bloom_Key.f 1 (⟨#[97]⟩ : ByteArray)).bind fun t135 => ((gouacheref10_Key.f k 1 (⟨#[97]⟩ : ByteArray)).bind fun t136 => (some (t135 == t136)))))) = some r := by first | (rw [hy128]; with_reducible exact H) | (have H2_ := (Option.bind_some _ _).symm.trans H; rw [hy128]; with_reducible exact H2_) | (have H2_ := (Option.bind_some _ _).symm.trans H; with_reducible exact H2_) | with_reducible exact H | (rw [hy128]; exact H) | exact H
      have Ny128 := Aside0.mk hy128
      clear hy128
      obtain ⟨y131, hy131⟩ : ∃ y_ : List (List (S124)), y_ = (([y128] : List (List (S124)))) := ⟨_, rfl⟩
      replace H : ((bloom_Skip.f k 0 0 0 0 y131 ([] : List Int)).bind fun t134 => (if t134 = true then (none) else ((bloom_Key.f 1 (⟨#[97]⟩ : ByteArray)).bind fun t135 => ((gouacheref10_Key.f k 1 (⟨#[97]⟩ : ByteArray)).bind fun t136 => (some (t135 == t136)))))) = some r := by first | (rw [hy131]; with_reducible exact H) | (have H2_ := (Option.bind_some _ _).symm.trans H; rw [hy131]; with_reducible exact H2_) | (have H2_ := (Option.bind_some _ _).symm.trans H; with_reducible exact H2_) | with_reducible exact H | (rw [hy131]; exact H) | exact H
      have Ny131 := Aside0.mk hy131
      clear hy131
      replace H := Option.bind_eq_some_iff.mp H
      obtain ⟨t134, A70, H⟩ := H
      replace H : (if t134 = true then (none) else ((bloom_Key.f 1 (⟨#[97]⟩ : ByteArray)).bind fun t135 => ((gouacheref10_Key.f k 1 (⟨#[97]⟩ : ByteArray)).bind fun t136 => (some (t135 == t136))))) = some r := H
      have A7 := Aside0.mk A70
      clear A70
      by_cases c8 : t134 = true
      · subst c8
        have H1 : (none) = some r := by rw [if_pos rfl] at H; exact H
        clear H
        have H := H1
        clear H1
        exact absurd H (by simp)
      · replace c8 := Bool.eq_false_iff.mpr c8
        subst c8
        have H1 : ((bloom_Key.f 1 (⟨#[97]⟩ : ByteArray)).bind fun t135 => ((gouacheref10_Key.f k 1 (⟨#[97]⟩ : ByteArray)).bind fun t136 => (some (t135 == t136)))) = some r := by rw [if_neg (show ¬ (false = true) by decide)] at H; exact H
        clear H
        have H := H1
        clear H1
        replace H := Option.bind_eq_some_iff.mp H
        obtain ⟨t135, A90, H⟩ := H
        replace H : ((gouacheref10_Key.f k 1 (⟨#[97]⟩ : ByteArray)).bind fun t136 => (some (t135 == t136))) = some r := H
        have A9 := Aside0.mk A90
        clear A90
        replace H := Option.bind_eq_some_iff.mp H
        obtain ⟨t136, A100, H⟩ := H
        replace H : (some (t135 == t136)) = some r := H
        have A10 := Aside0.mk A100
        clear A100
        obtain rfl := Option.some.inj H
        go_enter Try.func32, Try.ntmps32
        go_wp2_with (first | ((with_reducible refine gate_dst (N := 1) rfl ?_); (try (refine gate_guard (by rfl) ?_; dsimp only)); refine box_event ?hg (N := 1) ?hd (cs := #[.int .i64 0, .string (⟨#[]⟩ : ByteArray), .int .i64 0, .string (⟨#[]⟩ : ByteArray), .int .i64 0, .int .i64 0, .slice (⟨none, 0, 0⟩ : SV).a (⟨none, 0, 0⟩ : SV).n (⟨none, 0, 0⟩ : SV).c]) (t := 124) ?hr ?_; (case hd => rfl); (case hg => rfl); (case hr => first | (go_simp; done) | (go_simp; rfl)); intro gb101 hg w11 hbox hb; have n0_ := Aside0.mk (below_step (by repeat (first | (with_reducible first | exact HB.out | apply below_alloc | apply pw_below_drewN | apply below_drew1) | exact HB.out)) hb); have n1_ := Aside0.mk (hbox); have n2_ := Aside0.mk ((by rw [hg]; exact (below_size (by repeat (first | (with_reducible first | exact HB.out | apply below_alloc | apply pw_below_drewN | apply below_drew1) | exact HB.out))) : w.heap.size ≤ gb101)); have n3_ := Aside0.mk ((by rw [hg]; exact (below_size (by repeat (first | (with_reducible first | exact HB.out | apply below_alloc | apply pw_below_drewN | apply below_drew1) | exact HB.out))) : w.heap.size ≤ gb101)); clear HB; have HB := n0_; have BK101 := n1_; have GW101 := n2_; have GE101 := n3_; clear n0_ n1_ n2_ n3_; clear hb hbox hg) | ((with_reducible refine gate_dst (N := 2) rfl ?_); (try (refine gate_guard (by rfl) ?_; dsimp only)); refine box_event ?hg (N := 2) ?hd (cs := #[.int .i64 0, .string (⟨#[]⟩ : ByteArray), .int .i64 0, .string (⟨#[]⟩ : ByteArray), .int .i64 0, .int .i64 0, .slice (⟨none, 0, 0⟩ : SV).a (⟨none, 0, 0⟩ : SV).n (⟨none, 0, 0⟩ : SV).c]) (t := 124) ?hr ?_; (case hd => rfl); (case hg => rfl); (case hr => first | (go_simp; done) | (go_simp; rfl)); intro gb102 hg w12 hbox hb; have n0_ := Aside0.mk (blk_below (g := gb101) (o := .cells #[.int .i64 0, .string (⟨#[]⟩ : ByteArray), .int .i64 0, .string (⟨#[]⟩ : ByteArray), .int .i64 0, .int .i64 0, .slice (⟨none, 0, 0⟩ : SV).a (⟨none, 0, 0⟩ : SV).n (⟨none, 0, 0⟩ : SV).c] 124 (0, 0)) (by (with_reducible repeat (first | refine blk_drewN ?_ _ | refine blk_drew ?_ | refine blk_alloc ?_ _)); exact BK101.out) hb); have n1_ := Aside0.mk (below_step (by repeat (first | (with_reducible first | exact HB.out | apply below_alloc | apply pw_below_drewN | apply below_drew1 | refine below_set ?_ GE101.out) | exact HB.out)) hb); have n2_ := Aside0.mk (hbox); have n3_ := Aside0.mk ((by rw [hg]; exact (below_size (by repeat (first | (with_reducible first | exact HB.out | apply below_alloc | apply pw_below_drewN | apply below_drew1 | refine below_set ?_ GE101.out) | exact HB.out))) : w.heap.size ≤ gb102)); have n4_ := Aside0.mk ((by rw [hg]; exact (below_size (by repeat (first | (with_reducible first | exact HB.out | apply below_alloc | apply pw_below_drewN | apply below_drew1 | refine below_set ?_ GE101.out) | exact HB.out))) : w.heap.size ≤ gb102)); have n5_ := Aside0.mk ((by rw [hg]; exact Nat.ne_of_lt (blk_lt (g := gb101) (o := .cells #[.int .i64 0, .string (⟨#[]⟩ : ByteArray), .int .i64 0, .string (⟨#[]⟩ : ByteArray), .int .i64 0, .int .i64 0, .slice (⟨none, 0, 0⟩ : SV).a (⟨none, 0, 0⟩ : SV).n (⟨none, 0, 0⟩ : SV).c] 124 (0, 0)) (by (with_reducible repeat (first | refine blk_drewN ?_ _ | refine blk_drew ?_ | refine blk_alloc ?_ _)); exact BK101.out)) : gb101 ≠ gb102)); have n6_ := Aside0.mk ((by rw [hg]; exact Nat.ne_of_gt (blk_lt (g := gb101) (o := .cells #[.int .i64 0, .string (⟨#[]⟩ : ByteArray), .int .i64 0, .string (⟨#[]⟩ : ByteArray), .int .i64 0, .int .i64 0, .slice (⟨none, 0, 0⟩ : SV).a (⟨none, 0, 0⟩ : SV).n (⟨none, 0, 0⟩ : SV).c] 124 (0, 0)) (by (with_reducible repeat (first | refine blk_drewN ?_ _ | refine blk_drew ?_ | refine blk_alloc ?_ _)); exact BK101.out)) : gb102 ≠ gb101)); clear BK101; clear HB; have BK101 := n0_; have HB := n1_; have BK102 := n2_; have GW102 := n3_; have GE102 := n4_; have NB101_102 := n5_; have NB102_101 := n6_; clear n0_ n1_ n2_ n3_ n4_ n5_ n6_; clear hb hbox hg; have hnb13 := NB101_102.out; have hnc13 := NB102_101.out; have hcz14_0 : w12.cell? ⟨gb101, 0, none⟩ = some (.int .i64 0) := (blk_cell BK101.out 0).trans rfl; have hcz14_1 : w12.cell? ⟨gb101, 1, none⟩ = some (.string (⟨#[]⟩ : ByteArray)) := (blk_cell BK101.out 1).trans rfl; have hcz14_2 : w12.cell? ⟨gb101, 2, none⟩ = some (.int .i64 0) := (blk_cell BK101.out 2).trans rfl; have hcz14_3 : w12.cell? ⟨gb101, 3, none⟩ = some (.string (⟨#[]⟩ : ByteArray)) := (blk_cell BK101.out 3).trans rfl; have hcz14_4 : w12.cell? ⟨gb101, 4, none⟩ = some (.int .i64 0) := (blk_cell BK101.out 4).trans rfl; have hcz14_5 : w12.cell? ⟨gb101, 5, none⟩ = some (.int .i64 0) := (blk_cell BK101.out 5).trans rfl; have hcz14_6 : w12.cell? ⟨gb101, 6, none⟩ = some (.slice (⟨none, 0, 0⟩ : SV).a (⟨none, 0, 0⟩ : SV).n (⟨none, 0, 0⟩ : SV).c) := (blk_cell BK101.out 6).trans rfl; have hfz14_0 := blk_frozen BK101.out 0; have hfz14_1 := blk_frozen BK101.out 1; have hfz14_2 := blk_frozen BK101.out 2; have hfz14_3 := blk_frozen BK101.out 3; have hfz14_4 := blk_frozen BK101.out 4; have hfz14_5 := blk_frozen BK101.out 5; have hfz14_6 := blk_frozen BK101.out 6; have hcz15_0 : w12.cell? ⟨gb102, 0, none⟩ = some (.int .i64 0) := (blk_cell BK102.out 0).trans rfl; have hcz15_1 : w12.cell? ⟨gb102, 1, none⟩ = some (.string (⟨#[]⟩ : ByteArray)) := (blk_cell BK102.out 1).trans rfl; have hcz15_2 : w12.cell? ⟨gb102, 2, none⟩ = some (.int .i64 0) := (blk_cell BK102.out 2).trans rfl; have hcz15_3 : w12.cell? ⟨gb102, 3, none⟩ = some (.string (⟨#[]⟩ : ByteArray)) := (blk_cell BK102.out 3).trans rfl; have hcz15_4 : w12.cell? ⟨gb102, 4, none⟩ = some (.int .i64 0) := (blk_cell BK102.out 4).trans rfl; have hcz15_5 : w12.cell? ⟨gb102, 5, none⟩ = some (.int .i64 0) := (blk_cell BK102.out 5).trans rfl; have hcz15_6 : w12.cell? ⟨gb102, 6, none⟩ = some (.slice (⟨none, 0, 0⟩ : SV).a (⟨none, 0, 0⟩ : SV).n (⟨none, 0, 0⟩ : SV).c) := (blk_cell BK102.out 6).trans rfl; have hfz15_0 := blk_frozen BK102.out 0; have hfz15_1 := blk_frozen BK102.out 1; have hfz15_2 := blk_frozen BK102.out 2; have hfz15_3 := blk_frozen BK102.out 3; have hfz15_4 := blk_frozen BK102.out 4; have hfz15_5 := blk_frozen BK102.out 5; have hfz15_6 := blk_frozen BK102.out 6) | ((with_reducible refine gate_dst (N := 7) rfl ?_); (try (refine gate_guard (by rfl) ?_; dsimp only)); refine Kd.R_lit k124 _ 124 ?hg (N := 7) ?hd (xs := ([(⟨1, (⟨#[97]⟩ : ByteArray), 0, (⟨#[]⟩ : ByteArray), 0, 0, (⟨none, 0, 0⟩ : SV)⟩ : S124)] : List (S124))) (inner := [.int .i64 1, .string (⟨#[97]⟩ : ByteArray), .int .i64 0, .string (⟨#[]⟩ : ByteArray), .int .i64 0, .int .i64 0, .slice (⟨none, 0, 0⟩ : SV).a (⟨none, 0, 0⟩ : SV).n (⟨none, 0, 0⟩ : SV).c]) (ok := fun _ => True) (okp := fun _ => True) ?hr ?hp (fun _ hk => hk) trivial (Below.refl _ _) (Nat.le_refl _) (by simp) ?_; (case hd => rfl); (case hg => rfl); (case hr => first | (go_simp; done) | (go_simp; rfl)); (case hp => exact (Reps.c7 (show Kd.M k124 _ _ _ (⟨1, (⟨#[97]⟩ : ByteArray), 0, (⟨#[]⟩ : ByteArray), 0, 0, (⟨none, 0, 0⟩ : SV)⟩ : S124) [.int .i64 1, .string (⟨#[97]⟩ : ByteArray), .int .i64 0, .string (⟨#[]⟩ : ByteArray), .int .i64 0, .int .i64 0, .slice (⟨none, 0, 0⟩ : SV).a (⟨none, 0, 0⟩ : SV).n (⟨none, 0, 0⟩ : SV).c] from (k124_mkM _ _ _ (⟨1, (⟨#[97]⟩ : ByteArray), 0, (⟨#[]⟩ : ByteArray), 0, 0, (⟨none, 0, 0⟩ : SV)⟩ : S124) )) (Reps.none _ _))); intro v104 w16 ho17 hb hg_ hnew_; clear hg_ hnew_; (first | rw [← Ny103.out] at ho17 | (simp only [Int.reduceToNat] at ho17; rw [← Ny103.out] at ho17)); have n0_ := Aside0.mk (Kd.R_lower (Kd.R_newB (Kd.R_newB ho17 (g := gb101) (o := .cells #[.int .i64 1, .string (⟨#[97]⟩ : ByteArray), .int .i64 0, .string (⟨#[]⟩ : ByteArray), .int .i64 0, .int .i64 0, .slice (⟨none, 0, 0⟩ : SV).a (⟨none, 0, 0⟩ : SV).n (⟨none, 0, 0⟩ : SV).c] 124 (0, 0)) (by (with_reducible repeat (first | refine blk_drewN ?_ _ | refine blk_drew ?_ | refine blk_alloc ?_ _)); refine blk_far ?_ NB101_102.out _; (with_reducible repeat (first | refine blk_drewN ?_ _ | refine blk_drew ?_ | refine blk_alloc ?_ _)); refine blk_far ?_ NB101_102.out _; (with_reducible repeat (first | refine blk_drewN ?_ _ | refine blk_drew ?_ | refine blk_alloc ?_ _)); refine blk_far ?_ NB101_102.out _; (with_reducible repeat (first | refine blk_drewN ?_ _ | refine blk_drew ?_ | refine blk_alloc ?_ _)); refine blk_far ?_ NB101_102.out _; (with_reducible repeat (first | refine blk_drewN ?_ _ | refine blk_drew ?_ | refine blk_alloc ?_ _)); refine blk_far ?_ NB101_102.out _; (with_reducible repeat (first | refine blk_drewN ?_ _ | refine blk_drew ?_ | refine blk_alloc ?_ _)); refine blk_far ?_ NB101_102.out _; (with_reducible repeat (first | refine blk_drewN ?_ _ | refine blk_drew ?_ | refine blk_alloc ?_ _)); refine blk_far ?_ NB101_102.out _; (with_reducible repeat (first | refine blk_drewN ?_ _ | refine blk_drew ?_ | refine blk_alloc ?_ _)); refine blk_put (cs := #[.int .i64 1, .string (⟨#[97]⟩ : ByteArray), .int .i64 0, .string (⟨#[]⟩ : ByteArray), .int .i64 0, .int .i64 0, .slice (⟨none, 0, 0⟩ : SV).a (⟨none, 0, 0⟩ : SV).n (⟨none, 0, 0⟩ : SV).c]) ?_ 6 _ rfl; (with_reducible repeat (first | refine blk_drewN ?_ _ | refine blk_drew ?_ | refine blk_alloc ?_ _)); refine blk_put (cs := #[.int .i64 1, .string (⟨#[97]⟩ : ByteArray), .int .i64 0, .string (⟨#[]⟩ : ByteArray), .int .i64 0, .int .i64 0, .slice (⟨none, 0, 0⟩ : SV).a (⟨none, 0, 0⟩ : SV).n (⟨none, 0, 0⟩ : SV).c]) ?_ 5 _ rfl; (with_reducible repeat (first | refine blk_drewN ?_ _ | refine blk_drew ?_ | refine blk_alloc ?_ _)); refine blk_put (cs := #[.int .i64 1, .string (⟨#[97]⟩ : ByteArray), .int .i64 0, .string (⟨#[]⟩ : ByteArray), .int .i64 0, .int .i64 0, .slice (⟨none, 0, 0⟩ : SV).a (⟨none, 0, 0⟩ : SV).n (⟨none, 0, 0⟩ : SV).c]) ?_ 4 _ rfl; (with_reducible repeat (first | refine blk_drewN ?_ _ | refine blk_drew ?_ | refine blk_alloc ?_ _)); refine blk_put (cs := #[.int .i64 1, .string (⟨#[97]⟩ : ByteArray), .int .i64 0, .string (⟨#[]⟩ : ByteArray), .int .i64 0, .int .i64 0, .slice (⟨none, 0, 0⟩ : SV).a (⟨none, 0, 0⟩ : SV).n (⟨none, 0, 0⟩ : SV).c]) ?_ 3 _ rfl; (with_reducible repeat (first | refine blk_drewN ?_ _ | refine blk_drew ?_ | refine blk_alloc ?_ _)); refine blk_put (cs := #[.int .i64 1, .string (⟨#[97]⟩ : ByteArray), .int .i64 0, .string (⟨#[]⟩ : ByteArray), .int .i64 0, .int .i64 0, .slice (⟨none, 0, 0⟩ : SV).a (⟨none, 0, 0⟩ : SV).n (⟨none, 0, 0⟩ : SV).c]) ?_ 2 _ rfl; (with_reducible repeat (first | refine blk_drewN ?_ _ | refine blk_drew ?_ | refine blk_alloc ?_ _)); refine blk_put (cs := #[.int .i64 1, .string (⟨#[]⟩ : ByteArray), .int .i64 0, .string (⟨#[]⟩ : ByteArray), .int .i64 0, .int .i64 0, .slice (⟨none, 0, 0⟩ : SV).a (⟨none, 0, 0⟩ : SV).n (⟨none, 0, 0⟩ : SV).c]) ?_ 1 _ rfl; (with_reducible repeat (first | refine blk_drewN ?_ _ | refine blk_drew ?_ | refine blk_alloc ?_ _)); refine blk_put (cs := #[.int .i64 0, .string (⟨#[]⟩ : ByteArray), .int .i64 0, .string (⟨#[]⟩ : ByteArray), .int .i64 0, .int .i64 0, .slice (⟨none, 0, 0⟩ : SV).a (⟨none, 0, 0⟩ : SV).n (⟨none, 0, 0⟩ : SV).c]) ?_ 0 _ rfl; (with_reducible repeat (first | refine blk_drewN ?_ _ | refine blk_drew ?_ | refine blk_alloc ?_ _)); exact BK101.out)) (g := gb102) (o := .cells #[.int .i64 1, .string (⟨#[98]⟩ : ByteArray), .int .i64 0, .string (⟨#[]⟩ : ByteArray), .int .i64 0, .int .i64 0, .slice (⟨none, 0, 0⟩ : SV).a (⟨none, 0, 0⟩ : SV).n (⟨none, 0, 0⟩ : SV).c] 124 (0, 0)) (by (with_reducible repeat (first | refine blk_drewN ?_ _ | refine blk_drew ?_ | refine blk_alloc ?_ _)); refine blk_put (cs := #[.int .i64 1, .string (⟨#[98]⟩ : ByteArray), .int .i64 0, .string (⟨#[]⟩ : ByteArray), .int .i64 0, .int .i64 0, .slice (⟨none, 0, 0⟩ : SV).a (⟨none, 0, 0⟩ : SV).n (⟨none, 0, 0⟩ : SV).c]) ?_ 6 _ rfl; (with_reducible repeat (first | refine blk_drewN ?_ _ | refine blk_drew ?_ | refine blk_alloc ?_ _)); refine blk_put (cs := #[.int .i64 1, .string (⟨#[98]⟩ : ByteArray), .int .i64 0, .string (⟨#[]⟩ : ByteArray), .int .i64 0, .int .i64 0, .slice (⟨none, 0, 0⟩ : SV).a (⟨none, 0, 0⟩ : SV).n (⟨none, 0, 0⟩ : SV).c]) ?_ 5 _ rfl; (with_reducible repeat (first | refine blk_drewN ?_ _ | refine blk_drew ?_ | refine blk_alloc ?_ _)); refine blk_put (cs := #[.int .i64 1, .string (⟨#[98]⟩ : ByteArray), .int .i64 0, .string (⟨#[]⟩ : ByteArray), .int .i64 0, .int .i64 0, .slice (⟨none, 0, 0⟩ : SV).a (⟨none, 0, 0⟩ : SV).n (⟨none, 0, 0⟩ : SV).c]) ?_ 4 _ rfl; (with_reducible repeat (first | refine blk_drewN ?_ _ | refine blk_drew ?_ | refine blk_alloc ?_ _)); refine blk_put (cs := #[.int .i64 1, .string (⟨#[98]⟩ : ByteArray), .int .i64 0, .string (⟨#[]⟩ : ByteArray), .int .i64 0, .int .i64 0, .slice (⟨none, 0, 0⟩ : SV).a (⟨none, 0, 0⟩ : SV).n (⟨none, 0, 0⟩ : SV).c]) ?_ 3 _ rfl; (with_reducible repeat (first | refine blk_drewN ?_ _ | refine blk_drew ?_ | refine blk_alloc ?_ _)); refine blk_put (cs := #[.int .i64 1, .string (⟨#[98]⟩ : ByteArray), .int .i64 0, .string (⟨#[]⟩ : ByteArray), .int .i64 0, .int .i64 0, .slice (⟨none, 0, 0⟩ : SV).a (⟨none, 0, 0⟩ : SV).n (⟨none, 0, 0⟩ : SV).c]) ?_ 2 _ rfl; (with_reducible repeat (first | refine blk_drewN ?_ _ | refine blk_drew ?_ | refine blk_alloc ?_ _)); refine blk_put (cs := #[.int .i64 1, .string (⟨#[]⟩ : ByteArray), .int .i64 0, .string (⟨#[]⟩ : ByteArray), .int .i64 0, .int .i64 0, .slice (⟨none, 0, 0⟩ : SV).a (⟨none, 0, 0⟩ : SV).n (⟨none, 0, 0⟩ : SV).c]) ?_ 1 _ rfl; (with_reducible repeat (first | refine blk_drewN ?_ _ | refine blk_drew ?_ | refine blk_alloc ?_ _)); refine blk_put (cs := #[.int .i64 0, .string (⟨#[]⟩ : ByteArray), .int .i64 0, .string (⟨#[]⟩ : ByteArray), .int .i64 0, .int .i64 0, .slice (⟨none, 0, 0⟩ : SV).a (⟨none, 0, 0⟩ : SV).n (⟨none, 0, 0⟩ : SV).c]) ?_ 0 _ rfl; (with_reducible repeat (first | refine blk_drewN ?_ _ | refine blk_drew ?_ | refine blk_alloc ?_ _)); refine blk_far ?_ NB102_101.out _; (with_reducible repeat (first | refine blk_drewN ?_ _ | refine blk_drew ?_ | refine blk_alloc ?_ _)); refine blk_far ?_ NB102_101.out _; (with_reducible repeat (first | refine blk_drewN ?_ _ | refine blk_drew ?_ | refine blk_alloc ?_ _)); refine blk_far ?_ NB102_101.out _; (with_reducible repeat (first | refine blk_drewN ?_ _ | refine blk_drew ?_ | refine blk_alloc ?_ _)); refine blk_far ?_ NB102_101.out _; (with_reducible repeat (first | refine blk_drewN ?_ _ | refine blk_drew ?_ | refine blk_alloc ?_ _)); refine blk_far ?_ NB102_101.out _; (with_reducible repeat (first | refine blk_drewN ?_ _ | refine blk_drew ?_ | refine blk_alloc ?_ _)); refine blk_far ?_ NB102_101.out _; (with_reducible repeat (first | refine blk_drewN ?_ _ | refine blk_drew ?_ | refine blk_alloc ?_ _)); refine blk_far ?_ NB102_101.out _; (with_reducible repeat (first | refine blk_drewN ?_ _ | refine blk_drew ?_ | refine blk_alloc ?_ _)); exact BK102.out)) (below_size (by repeat (first | (with_reducible first | exact HB.out | apply below_alloc | apply pw_below_drewN | apply below_drew1 | refine below_set ?_ GE101.out | refine below_set ?_ GE102.out) | exact HB.out)))); have n1_ := Aside0.mk (blk_below (g := gb101) (o := .cells #[.int .i64 1, .string (⟨#[97]⟩ : ByteArray), .int .i64 0, .string (⟨#[]⟩ : ByteArray), .int .i64 0, .int .i64 0, .slice (⟨none, 0, 0⟩ : SV).a (⟨none, 0, 0⟩ : SV).n (⟨none, 0, 0⟩ : SV).c] 124 (0, 0)) (by (with_reducible repeat (first | refine blk_drewN ?_ _ | refine blk_drew ?_ | refine blk_alloc ?_ _)); refine blk_far ?_ NB101_102.out _; (with_reducible repeat (first | refine blk_drewN ?_ _ | refine blk_drew ?_ | refine blk_alloc ?_ _)); refine blk_far ?_ NB101_102.out _; (with_reducible repeat (first | refine blk_drewN ?_ _ | refine blk_drew ?_ | refine blk_alloc ?_ _)); refine blk_far ?_ NB101_102.out _; (with_reducible repeat (first | refine blk_drewN ?_ _ | refine blk_drew ?_ | refine blk_alloc ?_ _)); refine blk_far ?_ NB101_102.out _; (with_reducible repeat (first | refine blk_drewN ?_ _ | refine blk_drew ?_ | refine blk_alloc ?_ _)); refine blk_far ?_ NB101_102.out _; (with_reducible repeat (first | refine blk_drewN ?_ _ | refine blk_drew ?_ | refine blk_alloc ?_ _)); refine blk_far ?_ NB101_102.out _; (with_reducible repeat (first | refine blk_drewN ?_ _ | refine blk_drew ?_ | refine blk_alloc ?_ _)); refine blk_far ?_ NB101_102.out _; (with_reducible repeat (first | refine blk_drewN ?_ _ | refine blk_drew ?_ | refine blk_alloc ?_ _)); refine blk_put (cs := #[.int .i64 1, .string (⟨#[97]⟩ : ByteArray), .int .i64 0, .string (⟨#[]⟩ : ByteArray), .int .i64 0, .int .i64 0, .slice (⟨none, 0, 0⟩ : SV).a (⟨none, 0, 0⟩ : SV).n (⟨none, 0, 0⟩ : SV).c]) ?_ 6 _ rfl; (with_reducible repeat (first | refine blk_drewN ?_ _ | refine blk_drew ?_ | refine blk_alloc ?_ _)); refine blk_put (cs := #[.int .i64 1, .string (⟨#[97]⟩ : ByteArray), .int .i64 0, .string (⟨#[]⟩ : ByteArray), .int .i64 0, .int .i64 0, .slice (⟨none, 0, 0⟩ : SV).a (⟨none, 0, 0⟩ : SV).n (⟨none, 0, 0⟩ : SV).c]) ?_ 5 _ rfl; (with_reducible repeat (first | refine blk_drewN ?_ _ | refine blk_drew ?_ | refine blk_alloc ?_ _)); refine blk_put (cs := #[.int .i64 1, .string (⟨#[97]⟩ : ByteArray), .int .i64 0, .string (⟨#[]⟩ : ByteArray), .int .i64 0, .int .i64 0, .slice (⟨none, 0, 0⟩ : SV).a (⟨none, 0, 0⟩ : SV).n (⟨none, 0, 0⟩ : SV).c]) ?_ 4 _ rfl; (with_reducible repeat (first | refine blk_drewN ?_ _ | refine blk_drew ?_ | refine blk_alloc ?_ _)); refine blk_put (cs := #[.int .i64 1, .string (⟨#[97]⟩ : ByteArray), .int .i64 0, .string (⟨#[]⟩ : ByteArray), .int .i64 0, .int .i64 0, .slice (⟨none, 0, 0⟩ : SV).a (⟨none, 0, 0⟩ : SV).n (⟨none, 0, 0⟩ : SV).c]) ?_ 3 _ rfl; (with_reducible repeat (first | refine blk_drewN ?_ _ | refine blk_drew ?_ | refine blk_alloc ?_ _)); refine blk_put (cs := #[.int .i64 1, .string (⟨#[97]⟩ : ByteArray), .int .i64 0, .string (⟨#[]⟩ : ByteArray), .int .i64 0, .int .i64 0, .slice (⟨none, 0, 0⟩ : SV).a (⟨none, 0, 0⟩ : SV).n (⟨none, 0, 0⟩ : SV).c]) ?_ 2 _ rfl; (with_reducible repeat (first | refine blk_drewN ?_ _ | refine blk_drew ?_ | refine blk_alloc ?_ _)); refine blk_put (cs := #[.int .i64 1, .string (⟨#[]⟩ : ByteArray), .int .i64 0, .string (⟨#[]⟩ : ByteArray), .int .i64 0, .int .i64 0, .slice (⟨none, 0, 0⟩ : SV).a (⟨none, 0, 0⟩ : SV).n (⟨none, 0, 0⟩ : SV).c]) ?_ 1 _ rfl; (with_reducible repeat (first | refine blk_drewN ?_ _ | refine blk_drew ?_ | refine blk_alloc ?_ _)); refine blk_put (cs := #[.int .i64 0, .string (⟨#[]⟩ : ByteArray), .int .i64 0, .string (⟨#[]⟩ : ByteArray), .int .i64 0, .int .i64 0, .slice (⟨none, 0, 0⟩ : SV).a (⟨none, 0, 0⟩ : SV).n (⟨none, 0, 0⟩ : SV).c]) ?_ 0 _ rfl; (with_reducible repeat (first | refine blk_drewN ?_ _ | refine blk_drew ?_ | refine blk_alloc ?_ _)); exact BK101.out) hb); have n2_ := Aside0.mk (blk_below (g := gb102) (o := .cells #[.int .i64 1, .string (⟨#[98]⟩ : ByteArray), .int .i64 0, .string (⟨#[]⟩ : ByteArray), .int .i64 0, .int .i64 0, .slice (⟨none, 0, 0⟩ : SV).a (⟨none, 0, 0⟩ : SV).n (⟨none, 0, 0⟩ : SV).c] 124 (0, 0)) (by (with_reducible repeat (first | refine blk_drewN ?_ _ | refine blk_drew ?_ | refine blk_alloc ?_ _)); refine blk_put (cs := #[.int .i64 1, .string (⟨#[98]⟩ : ByteArray), .int .i64 0, .string (⟨#[]⟩ : ByteArray), .int .i64 0, .int .i64 0, .slice (⟨none, 0, 0⟩ : SV).a (⟨none, 0, 0⟩ : SV).n (⟨none, 0, 0⟩ : SV).c]) ?_ 6 _ rfl; (with_reducible repeat (first | refine blk_drewN ?_ _ | refine blk_drew ?_ | refine blk_alloc ?_ _)); refine blk_put (cs := #[.int .i64 1, .string (⟨#[98]⟩ : ByteArray), .int .i64 0, .string (⟨#[]⟩ : ByteArray), .int .i64 0, .int .i64 0, .slice (⟨none, 0, 0⟩ : SV).a (⟨none, 0, 0⟩ : SV).n (⟨none, 0, 0⟩ : SV).c]) ?_ 5 _ rfl; (with_reducible repeat (first | refine blk_drewN ?_ _ | refine blk_drew ?_ | refine blk_alloc ?_ _)); refine blk_put (cs := #[.int .i64 1, .string (⟨#[98]⟩ : ByteArray), .int .i64 0, .string (⟨#[]⟩ : ByteArray), .int .i64 0, .int .i64 0, .slice (⟨none, 0, 0⟩ : SV).a (⟨none, 0, 0⟩ : SV).n (⟨none, 0, 0⟩ : SV).c]) ?_ 4 _ rfl; (with_reducible repeat (first | refine blk_drewN ?_ _ | refine blk_drew ?_ | refine blk_alloc ?_ _)); refine blk_put (cs := #[.int .i64 1, .string (⟨#[98]⟩ : ByteArray), .int .i64 0, .string (⟨#[]⟩ : ByteArray), .int .i64 0, .int .i64 0, .slice (⟨none, 0, 0⟩ : SV).a (⟨none, 0, 0⟩ : SV).n (⟨none, 0, 0⟩ : SV).c]) ?_ 3 _ rfl; (with_reducible repeat (first | refine blk_drewN ?_ _ | refine blk_drew ?_ | refine blk_alloc ?_ _)); refine blk_put (cs := #[.int .i64 1, .string (⟨#[98]⟩ : ByteArray), .int .i64 0, .string (⟨#[]⟩ : ByteArray), .int .i64 0, .int .i64 0, .slice (⟨none, 0, 0⟩ : SV).a (⟨none, 0, 0⟩ : SV).n (⟨none, 0, 0⟩ : SV).c]) ?_ 2 _ rfl; (with_reducible repeat (first | refine blk_drewN ?_ _ | refine blk_drew ?_ | refine blk_alloc ?_ _)); refine blk_put (cs := #[.int .i64 1, .string (⟨#[]⟩ : ByteArray), .int .i64 0, .string (⟨#[]⟩ : ByteArray), .int .i64 0, .int .i64 0, .slice (⟨none, 0, 0⟩ : SV).a (⟨none, 0, 0⟩ : SV).n (⟨none, 0, 0⟩ : SV).c]) ?_ 1 _ rfl; (with_reducible repeat (first | refine blk_drewN ?_ _ | refine blk_drew ?_ | refine blk_alloc ?_ _)); refine blk_put (cs := #[.int .i64 0, .string (⟨#[]⟩ : ByteArray), .int .i64 0, .string (⟨#[]⟩ : ByteArray), .int .i64 0, .int .i64 0, .slice (⟨none, 0, 0⟩ : SV).a (⟨none, 0, 0⟩ : SV).n (⟨none, 0, 0⟩ : SV).c]) ?_ 0 _ rfl; (with_reducible repeat (first | refine blk_drewN ?_ _ | refine blk_drew ?_ | refine blk_alloc ?_ _)); refine blk_far ?_ NB102_101.out _; (with_reducible repeat (first | refine blk_drewN ?_ _ | refine blk_drew ?_ | refine blk_alloc ?_ _)); refine blk_far ?_ NB102_101.out _; (with_reducible repeat (first | refine blk_drewN ?_ _ | refine blk_drew ?_ | refine blk_alloc ?_ _)); refine blk_far ?_ NB102_101.out _; (with_reducible repeat (first | refine blk_drewN ?_ _ | refine blk_drew ?_ | refine blk_alloc ?_ _)); refine blk_far ?_ NB102_101.out _; (with_reducible repeat (first | refine blk_drewN ?_ _ | refine blk_drew ?_ | refine blk_alloc ?_ _)); refine blk_far ?_ NB102_101.out _; (with_reducible repeat (first | refine blk_drewN ?_ _ | refine blk_drew ?_ | refine blk_alloc ?_ _)); refine blk_far ?_ NB102_101.out _; (with_reducible repeat (first | refine blk_drewN ?_ _ | refine blk_drew ?_ | refine blk_alloc ?_ _)); refine blk_far ?_ NB102_101.out _; (with_reducible repeat (first | refine blk_drewN ?_ _ | refine blk_drew ?_ | refine blk_alloc ?_ _)); exact BK102.out) hb); have n3_ := Aside0.mk (below_step (by repeat (first | (with_reducible first | exact HB.out | apply below_alloc | apply pw_below_drewN | apply below_drew1 | refine below_set ?_ GE101.out | refine below_set ?_ GE102.out) | exact HB.out)) hb); clear BK101; clear BK102; clear HB; have HO105 := n0_; have BK101 := n1_; have BK102 := n2_; have HB := n3_; clear n0_ n1_ n2_ n3_; clear hb ho17; have hcz18_0 : w16.cell? ⟨gb102, 0, none⟩ = some (.int .i64 1) := (blk_cell BK102.out 0).trans rfl; have hcz18_1 : w16.cell? ⟨gb102, 1, none⟩ = some (.string (⟨#[98]⟩ : ByteArray)) := (blk_cell BK102.out 1).trans rfl; have hcz18_2 : w16.cell? ⟨gb102, 2, none⟩ = some (.int .i64 0) := (blk_cell BK102.out 2).trans rfl; have hcz18_3 : w16.cell? ⟨gb102, 3, none⟩ = some (.string (⟨#[]⟩ : ByteArray)) := (blk_cell BK102.out 3).trans rfl; have hcz18_4 : w16.cell? ⟨gb102, 4, none⟩ = some (.int .i64 0) := (blk_cell BK102.out 4).trans rfl; have hcz18_5 : w16.cell? ⟨gb102, 5, none⟩ = some (.int .i64 0) := (blk_cell BK102.out 5).trans rfl; have hcz18_6 : w16.cell? ⟨gb102, 6, none⟩ = some (.slice (⟨none, 0, 0⟩ : SV).a (⟨none, 0, 0⟩ : SV).n (⟨none, 0, 0⟩ : SV).c) := (blk_cell BK102.out 6).trans rfl; have hfz18_0 := blk_frozen BK102.out 0; have hfz18_1 := blk_frozen BK102.out 1; have hfz18_2 := blk_frozen BK102.out 2; have hfz18_3 := blk_frozen BK102.out 3; have hfz18_4 := blk_frozen BK102.out 4; have hfz18_5 := blk_frozen BK102.out 5; have hfz18_6 := blk_frozen BK102.out 6) | ((with_reducible refine gate_dst (N := 9) rfl ?_); (try (refine gate_guard (by rfl) ?_; dsimp only)); refine Kd.R_lit k124 _ 124 ?hg (N := 9) ?hd (xs := ([(⟨1, (⟨#[98]⟩ : ByteArray), 0, (⟨#[]⟩ : ByteArray), 0, 0, (⟨none, 0, 0⟩ : SV)⟩ : S124)] : List (S124))) (inner := [.int .i64 1, .string (⟨#[98]⟩ : ByteArray), .int .i64 0, .string (⟨#[]⟩ : ByteArray), .int .i64 0, .int .i64 0, .slice (⟨none, 0, 0⟩ : SV).a (⟨none, 0, 0⟩ : SV).n (⟨none, 0, 0⟩ : SV).c]) (ok := fun _ => True) (okp := fun _ => True) ?hr ?hp (fun _ hk => hk) trivial (Below.refl _ _) (Nat.le_refl _) (by simp) ?_; (case hd => rfl); (case hg => rfl); (case hr => first | (go_simp; done) | (go_simp; rfl)); (case hp => exact (Reps.c7 (show Kd.M k124 _ _ _ (⟨1, (⟨#[98]⟩ : ByteArray), 0, (⟨#[]⟩ : ByteArray), 0, 0, (⟨none, 0, 0⟩ : SV)⟩ : S124) [.int .i64 1, .string (⟨#[98]⟩ : ByteArray), .int .i64 0, .string (⟨#[]⟩ : ByteArray), .int .i64 0, .int .i64 0, .slice (⟨none, 0, 0⟩ : SV).a (⟨none, 0, 0⟩ : SV).n (⟨none, 0, 0⟩ : SV).c] from (k124_mkM _ _ _ (⟨1, (⟨#[98]⟩ : ByteArray), 0, (⟨#[]⟩ : ByteArray), 0, 0, (⟨none, 0, 0⟩ : SV)⟩ : S124) )) (Reps.none _ _))); intro v107 w19 ho20 hb hg_ hnew_; clear hg_ hnew_; (first | rw [← Ny106.out] at ho20 | (simp only [Int.reduceToNat] at ho20; rw [← Ny106.out] at ho20)); have n0_ := Aside0.mk (Kd.R_elder' (by (with_reducible repeat (first | apply Kd.R_alloc | apply Kd.R_drewN | apply Kd.R_drew)); exact HO105.out) (Kd.R_base ho20) hb); have n1_ := Aside0.mk (Kd.R_lower (Kd.R_newB (Kd.R_newB (Kd.R_new' ho20 (Kd.R_lt (by (with_reducible repeat (first | apply Kd.R_alloc | apply Kd.R_drewN | apply Kd.R_drew)); exact HO105.out))) (g := gb101) (o := .cells #[.int .i64 1, .string (⟨#[97]⟩ : ByteArray), .int .i64 0, .string (⟨#[]⟩ : ByteArray), .int .i64 0, .int .i64 0, .slice (⟨none, 0, 0⟩ : SV).a (⟨none, 0, 0⟩ : SV).n (⟨none, 0, 0⟩ : SV).c] 124 (0, 0)) (by (with_reducible repeat (first | refine blk_drewN ?_ _ | refine blk_drew ?_ | refine blk_alloc ?_ _)); exact BK101.out)) (g := gb102) (o := .cells #[.int .i64 1, .string (⟨#[98]⟩ : ByteArray), .int .i64 0, .string (⟨#[]⟩ : ByteArray), .int .i64 0, .int .i64 0, .slice (⟨none, 0, 0⟩ : SV).a (⟨none, 0, 0⟩ : SV).n (⟨none, 0, 0⟩ : SV).c] 124 (0, 0)) (by (with_reducible repeat (first | refine blk_drewN ?_ _ | refine blk_drew ?_ | refine blk_alloc ?_ _)); exact BK102.out)) (below_size (by repeat (first | (with_reducible first | exact HB.out | apply below_alloc | apply pw_below_drewN | apply below_drew1 | refine below_set ?_ GE101.out | refine below_set ?_ GE102.out) | exact HB.out)))); have n2_ := Aside0.mk (blk_below (g := gb101) (o := .cells #[.int .i64 1, .string (⟨#[97]⟩ : ByteArray), .int .i64 0, .string (⟨#[]⟩ : ByteArray), .int .i64 0, .int .i64 0, .slice (⟨none, 0, 0⟩ : SV).a (⟨none, 0, 0⟩ : SV).n (⟨none, 0, 0⟩ : SV).c] 124 (0, 0)) (by (with_reducible repeat (first | refine blk_drewN ?_ _ | refine blk_drew ?_ | refine blk_alloc ?_ _)); exact BK101.out) hb); have n3_ := Aside0.mk (blk_below (g := gb102) (o := .cells #[.int .i64 1, .string (⟨#[98]⟩ : ByteArray), .int .i64 0, .string (⟨#[]⟩ : ByteArray), .int .i64 0, .int .i64 0, .slice (⟨none, 0, 0⟩ : SV).a (⟨none, 0, 0⟩ : SV).n (⟨none, 0, 0⟩ : SV).c] 124 (0, 0)) (by (with_reducible repeat (first | refine blk_drewN ?_ _ | refine blk_drew ?_ | refine blk_alloc ?_ _)); exact BK102.out) hb); have n4_ := Aside0.mk (below_step (by repeat (first | (with_reducible first | exact HB.out | apply below_alloc | apply pw_below_drewN | apply below_drew1 | refine below_set ?_ GE101.out | refine below_set ?_ GE102.out) | exact HB.out)) hb); clear HO105; clear BK101; clear BK102; clear HB; have HO105 := n0_; have HO108 := n1_; have BK101 := n2_; have BK102 := n3_; have HB := n4_; clear n0_ n1_ n2_ n3_ n4_; clear hb ho20; have hcz21_0 : w19.cell? ⟨gb102, 0, none⟩ = some (.int .i64 1) := (blk_cell BK102.out 0).trans rfl; have hcz21_1 : w19.cell? ⟨gb102, 1, none⟩ = some (.string (⟨#[98]⟩ : ByteArray)) := (blk_cell BK102.out 1).trans rfl; have hcz21_2 : w19.cell? ⟨gb102, 2, none⟩ = some (.int .i64 0) := (blk_cell BK102.out 2).trans rfl; have hcz21_3 : w19.cell? ⟨gb102, 3, none⟩ = some (.string (⟨#[]⟩ : ByteArray)) := (blk_cell BK102.out 3).trans rfl; have hcz21_4 : w19.cell? ⟨gb102, 4, none⟩ = some (.int .i64 0) := (blk_cell BK102.out 4).trans rfl; have hcz21_5 : w19.cell? ⟨gb102, 5, none⟩ = some (.int .i64 0) := (blk_cell BK102.out 5).trans rfl; have hcz21_6 : w19.cell? ⟨gb102, 6, none⟩ = some (.slice (⟨none, 0, 0⟩ : SV).a (⟨none, 0, 0⟩ : SV).n (⟨none, 0, 0⟩ : SV).c) := (blk_cell BK102.out 6).trans rfl; have hfz21_0 := blk_frozen BK102.out 0; have hfz21_1 := blk_frozen BK102.out 1; have hfz21_2 := blk_frozen BK102.out 2; have hfz21_3 := blk_frozen BK102.out 3; have hfz21_4 := blk_frozen BK102.out 4; have hfz21_5 := blk_frozen BK102.out 5; have hfz21_6 := blk_frozen BK102.out 6) | ((with_reducible refine gate_dst (N := 11) rfl ?_); (try (refine gate_guard (by rfl) ?_; dsimp only)); refine Kd.R_lit k124 _ 124 ?hg (N := 11) ?hd (xs := ([(⟨1, (⟨#[98]⟩ : ByteArray), 0, (⟨#[]⟩ : ByteArray), 0, 0, (⟨none, 0, 0⟩ : SV)⟩ : S124)] : List (S124))) (inner := [.int .i64 1, .string (⟨#[98]⟩ : ByteArray), .int .i64 0, .string (⟨#[]⟩ : ByteArray), .int .i64 0, .int .i64 0, .slice (⟨none, 0, 0⟩ : SV).a (⟨none, 0, 0⟩ : SV).n (⟨none, 0, 0⟩ : SV).c]) (ok := fun _ => True) (okp := fun _ => True) ?hr ?hp (fun _ hk => hk) trivial (Below.refl _ _) (Nat.le_refl _) (by simp) ?_; (case hd => rfl); (case hg => rfl); (case hr => first | (go_simp; done) | (go_simp; rfl)); (case hp => exact (Reps.c7 (show Kd.M k124 _ _ _ (⟨1, (⟨#[98]⟩ : ByteArray), 0, (⟨#[]⟩ : ByteArray), 0, 0, (⟨none, 0, 0⟩ : SV)⟩ : S124) [.int .i64 1, .string (⟨#[98]⟩ : ByteArray), .int .i64 0, .string (⟨#[]⟩ : ByteArray), .int .i64 0, .int .i64 0, .slice (⟨none, 0, 0⟩ : SV).a (⟨none, 0, 0⟩ : SV).n (⟨none, 0, 0⟩ : SV).c] from (k124_mkM _ _ _ (⟨1, (⟨#[98]⟩ : ByteArray), 0, (⟨#[]⟩ : ByteArray), 0, 0, (⟨none, 0, 0⟩ : SV)⟩ : S124) )) (Reps.none _ _))); intro v110 w22 ho23 hb hg_ hnew_; clear hg_ hnew_; (first | rw [← Ny109.out] at ho23 | (simp only [Int.reduceToNat] at ho23; rw [← Ny109.out] at ho23)); have n0_ := Aside0.mk (Kd.R_elder' (by (with_reducible repeat (first | apply Kd.R_alloc | apply Kd.R_drewN | apply Kd.R_drew)); exact HO105.out) (Kd.R_base ho23) hb); have n1_ := Aside0.mk (Kd.R_elder' (by (with_reducible repeat (first | apply Kd.R_alloc | apply Kd.R_drewN | apply Kd.R_drew)); exact HO108.out) (Kd.R_base ho23) hb); have n2_ := Aside0.mk (Kd.R_lower (Kd.R_newB (Kd.R_newB (Kd.R_new' (Kd.R_new' ho23 (Kd.R_lt (by (with_reducible repeat (first | apply Kd.R_alloc | apply Kd.R_drewN | apply Kd.R_drew)); exact HO105.out))) (Kd.R_lt (by (with_reducible repeat (first | apply Kd.R_alloc | apply Kd.R_drewN | apply Kd.R_drew)); exact HO108.out))) (g := gb101) (o := .cells #[.int .i64 1, .string (⟨#[97]⟩ : ByteArray), .int .i64 0, .string (⟨#[]⟩ : ByteArray), .int .i64 0, .int .i64 0, .slice (⟨none, 0, 0⟩ : SV).a (⟨none, 0, 0⟩ : SV).n (⟨none, 0, 0⟩ : SV).c] 124 (0, 0)) (by (with_reducible repeat (first | refine blk_drewN ?_ _ | refine blk_drew ?_ | refine blk_alloc ?_ _)); exact BK101.out)) (g := gb102) (o := .cells #[.int .i64 1, .string (⟨#[98]⟩ : ByteArray), .int .i64 0, .string (⟨#[]⟩ : ByteArray), .int .i64 0, .int .i64 0, .slice (⟨none, 0, 0⟩ : SV).a (⟨none, 0, 0⟩ : SV).n (⟨none, 0, 0⟩ : SV).c] 124 (0, 0)) (by (with_reducible repeat (first | refine blk_drewN ?_ _ | refine blk_drew ?_ | refine blk_alloc ?_ _)); exact BK102.out)) (below_size (by repeat (first | (with_reducible first | exact HB.out | apply below_alloc | apply pw_below_drewN | apply below_drew1 | refine below_set ?_ GE101.out | refine below_set ?_ GE102.out) | exact HB.out)))); have n3_ := Aside0.mk (blk_below (g := gb101) (o := .cells #[.int .i64 1, .string (⟨#[97]⟩ : ByteArray), .int .i64 0, .string (⟨#[]⟩ : ByteArray), .int .i64 0, .int .i64 0, .slice (⟨none, 0, 0⟩ : SV).a (⟨none, 0, 0⟩ : SV).n (⟨none, 0, 0⟩ : SV).c] 124 (0, 0)) (by (with_reducible repeat (first | refine blk_drewN ?_ _ | refine blk_drew ?_ | refine blk_alloc ?_ _)); exact BK101.out) hb); have n4_ := Aside0.mk (blk_below (g := gb102) (o := .cells #[.int .i64 1, .string (⟨#[98]⟩ : ByteArray), .int .i64 0, .string (⟨#[]⟩ : ByteArray), .int .i64 0, .int .i64 0, .slice (⟨none, 0, 0⟩ : SV).a (⟨none, 0, 0⟩ : SV).n (⟨none, 0, 0⟩ : SV).c] 124 (0, 0)) (by (with_reducible repeat (first | refine blk_drewN ?_ _ | refine blk_drew ?_ | refine blk_alloc ?_ _)); exact BK102.out) hb); have n5_ := Aside0.mk (below_step (by repeat (first | (with_reducible first | exact HB.out | apply below_alloc | apply pw_below_drewN | apply below_drew1 | refine below_set ?_ GE101.out | refine below_set ?_ GE102.out) | exact HB.out)) hb); clear HO105; clear HO108; clear BK101; clear BK102; clear HB; have HO105 := n0_; have HO108 := n1_; have HO111 := n2_; have BK101 := n3_; have BK102 := n4_; have HB := n5_; clear n0_ n1_ n2_ n3_ n4_ n5_; clear hb ho23; obtain ⟨Ao24, co24, eo24⟩ := Kd.R_slice HO105.out; subst eo24; obtain ⟨Ao25, co25, eo25⟩ := Kd.R_slice HO108.out; subst eo25; obtain ⟨Ao26, co26, eo26⟩ := Kd.R_slice HO111.out; subst eo26) | ((with_reducible refine gate_dst (N := 12) rfl ?_); (try (refine gate_guard (by rfl) ?_; dsimp only)); refine Kd.N_lit (Kd.slice 124 k124) _ 125 ?hg (N' := 12) ?hd (xs := ([y103, y106, y109] : List (List (S124)))) (inner := [.slice Ao24 y103.length co24, .slice Ao25 y106.length co25, .slice Ao26 y109.length co26]) (ok := (fun k_ => k_ ≠ gb101 ∧ k_ ≠ gb102)) (okp := (fun k_ => k_ ≠ gb101 ∧ k_ ≠ gb102)) ?hr ?hp (fun _ hk => hk) ((show ∀ k_, w22.heap.size ≤ k_ → (fun k_ => k_ ≠ gb101 ∧ k_ ≠ gb102) k_ from fun k_ hk => ⟨Kd.freshB (g := gb101) (o := .cells #[.int .i64 1, .string (⟨#[97]⟩ : ByteArray), .int .i64 0, .string (⟨#[]⟩ : ByteArray), .int .i64 0, .int .i64 0, .slice (⟨none, 0, 0⟩ : SV).a (⟨none, 0, 0⟩ : SV).n (⟨none, 0, 0⟩ : SV).c] 124 (0, 0)) (by (with_reducible repeat (first | refine blk_drewN ?_ _ | refine blk_drew ?_ | refine blk_alloc ?_ _)); exact BK101.out) k_ hk, Kd.freshB (g := gb102) (o := .cells #[.int .i64 1, .string (⟨#[98]⟩ : ByteArray), .int .i64 0, .string (⟨#[]⟩ : ByteArray), .int .i64 0, .int .i64 0, .slice (⟨none, 0, 0⟩ : SV).a (⟨none, 0, 0⟩ : SV).n (⟨none, 0, 0⟩ : SV).c] 124 (0, 0)) (by (with_reducible repeat (first | refine blk_drewN ?_ _ | refine blk_drew ?_ | refine blk_alloc ?_ _)); exact BK102.out) k_ hk⟩) _ (Nat.le_refl _)) (Below.refl _ _) (Nat.le_refl _) (by simp) ?_; (case hd => rfl); (case hg => rfl); (case hr => first | (go_simp; done) | (go_simp; rfl)); (case hp => exact (Reps.one (show Kd.FK (Kd.slice 124 k124) _ _ y103 [.slice Ao24 y103.length co24] from (Kd.FK_slice_mk (Kd.R_reads' (Kd.R_mono (ok' := (fun k_ => k_ ≠ gb101 ∧ k_ ≠ gb102)) (HO105.out) (fun k_ hk => ⟨hk.1.1.1.2, hk.1.1.2⟩))).2.1 (Kd.R_F (Kd.R_mono (ok' := (fun k_ => k_ ≠ gb101 ∧ k_ ≠ gb102)) (HO105.out) (fun k_ hk => ⟨hk.1.1.1.2, hk.1.1.2⟩))))) (Reps.one (show Kd.FK (Kd.slice 124 k124) _ _ y106 [.slice Ao25 y106.length co25] from (Kd.FK_slice_mk (Kd.R_reads' (Kd.R_mono (ok' := (fun k_ => k_ ≠ gb101 ∧ k_ ≠ gb102)) (HO108.out) (fun k_ hk => ⟨hk.1.1.2, hk.1.2⟩))).2.1 (Kd.R_F (Kd.R_mono (ok' := (fun k_ => k_ ≠ gb101 ∧ k_ ≠ gb102)) (HO108.out) (fun k_ hk => ⟨hk.1.1.2, hk.1.2⟩))))) (Reps.one (show Kd.FK (Kd.slice 124 k124) _ _ y109 [.slice Ao26 y109.length co26] from (Kd.FK_slice_mk (Kd.R_reads' (Kd.R_mono (ok' := (fun k_ => k_ ≠ gb101 ∧ k_ ≠ gb102)) (HO111.out) (fun k_ hk => ⟨hk.1.2, hk.2⟩))).2.1 (Kd.R_F (Kd.R_mono (ok' := (fun k_ => k_ ≠ gb101 ∧ k_ ≠ gb102)) (HO111.out) (fun k_ hk => ⟨hk.1.2, hk.2⟩))))) (Reps.none _ _))))); intro v113 w27 ho28 hb hg_ hnew_; clear hg_ hnew_; (first | rw [← Ny112.out] at ho28 | (simp only [Int.reduceToNat] at ho28; rw [← Ny112.out] at ho28)); have n0_ := Aside0.mk (Kd.N_lower ho28 (below_size (by repeat (first | (with_reducible first | exact HB.out | apply below_alloc | apply pw_below_drewN | apply below_drew1 | refine below_set ?_ GE101.out | refine below_set ?_ GE102.out) | exact HB.out)))); have n1_ := Aside0.mk (blk_below (g := gb101) (o := .cells #[.int .i64 1, .string (⟨#[97]⟩ : ByteArray), .int .i64 0, .string (⟨#[]⟩ : ByteArray), .int .i64 0, .int .i64 0, .slice (⟨none, 0, 0⟩ : SV).a (⟨none, 0, 0⟩ : SV).n (⟨none, 0, 0⟩ : SV).c] 124 (0, 0)) (by (with_reducible repeat (first | refine blk_drewN ?_ _ | refine blk_drew ?_ | refine blk_alloc ?_ _)); exact BK101.out) hb); have n2_ := Aside0.mk (blk_below (g := gb102) (o := .cells #[.int .i64 1, .string (⟨#[98]⟩ : ByteArray), .int .i64 0, .string (⟨#[]⟩ : ByteArray), .int .i64 0, .int .i64 0, .slice (⟨none, 0, 0⟩ : SV).a (⟨none, 0, 0⟩ : SV).n (⟨none, 0, 0⟩ : SV).c] 124 (0, 0)) (by (with_reducible repeat (first | refine blk_drewN ?_ _ | refine blk_drew ?_ | refine blk_alloc ?_ _)); exact BK102.out) hb); have n3_ := Aside0.mk (below_step (by repeat (first | (with_reducible first | exact HB.out | apply below_alloc | apply pw_below_drewN | apply below_drew1 | refine below_set ?_ GE101.out | refine below_set ?_ GE102.out) | exact HB.out)) hb); clear BK101; clear BK102; clear HB; clear HO105; clear HO108; clear HO111; have HO114 := n0_; have BK101 := n1_; have BK102 := n2_; have HB := n3_; clear n0_ n1_ n2_ n3_; clear hb ho28) | ((with_reducible refine gate_dst (N := 13) rfl ?_); (try (refine gate_guard (by rfl) ?_; dsimp only)); refine Kd.R_lit (Kd.int .i64) _ 3 ?hg (N := 13) ?hd (xs := ([2, 3] : List Int)) (inner := [.int .i64 2, .int .i64 3]) (ok := fun _ => True) (okp := fun _ => True) ?hr ?hp (fun _ hk => hk) trivial (Below.refl _ _) (Nat.le_refl _) (by simp) ?_; (case hd => rfl); (case hg => rfl); (case hr => first | (go_simp; done) | (go_simp; rfl)); (case hp => exact (Reps.one (show Kd.M (Kd.int .i64) _ _ _ 2 [.int .i64 2] from rfl) (Reps.one (show Kd.M (Kd.int .i64) _ _ _ 3 [.int .i64 3] from rfl) (Reps.none _ _)))); intro v116 w29 ho30 hb hg_ hnew_; clear hg_ hnew_; (first | rw [← Ny115.out] at ho30 | (simp only [Int.reduceToNat] at ho30; rw [← Ny115.out] at ho30)); have n0_ := Aside0.mk (Kd.N_elder' (by (with_reducible repeat (first | apply Kd.N_alloc | apply Kd.N_drewN | apply Kd.N_drew)); exact HO114.out) (Kd.R_base ho30) hb); have n1_ := Aside0.mk (Kd.R_lower ho30 (below_size (by repeat (first | (with_reducible first | exact HB.out | apply below_alloc | apply pw_below_drewN | apply below_drew1 | refine below_set ?_ GE101.out | refine below_set ?_ GE102.out) | exact HB.out)))); have n2_ := Aside0.mk (blk_below (g := gb101) (o := .cells #[.int .i64 1, .string (⟨#[97]⟩ : ByteArray), .int .i64 0, .string (⟨#[]⟩ : ByteArray), .int .i64 0, .int .i64 0, .slice (⟨none, 0, 0⟩ : SV).a (⟨none, 0, 0⟩ : SV).n (⟨none, 0, 0⟩ : SV).c] 124 (0, 0)) (by (with_reducible repeat (first | refine blk_drewN ?_ _ | refine blk_drew ?_ | refine blk_alloc ?_ _)); exact BK101.out) hb); have n3_ := Aside0.mk (blk_below (g := gb102) (o := .cells #[.int .i64 1, .string (⟨#[98]⟩ : ByteArray), .int .i64 0, .string (⟨#[]⟩ : ByteArray), .int .i64 0, .int .i64 0, .slice (⟨none, 0, 0⟩ : SV).a (⟨none, 0, 0⟩ : SV).n (⟨none, 0, 0⟩ : SV).c] 124 (0, 0)) (by (with_reducible repeat (first | refine blk_drewN ?_ _ | refine blk_drew ?_ | refine blk_alloc ?_ _)); exact BK102.out) hb); have n4_ := Aside0.mk (below_step (by repeat (first | (with_reducible first | exact HB.out | apply below_alloc | apply pw_below_drewN | apply below_drew1 | refine below_set ?_ GE101.out | refine below_set ?_ GE102.out) | exact HB.out)) hb); clear HO114; clear BK101; clear BK102; clear HB; have HO114 := n0_; have HO117 := n1_; have BK101 := n2_; have BK102 := n3_; have HB := n4_; clear n0_ n1_ n2_ n3_ n4_; clear hb ho30; obtain ⟨Ao31, co31, eo31⟩ := Kd.R_slice HO117.out; subst eo31; obtain ⟨Ao32, co32, eo32⟩ := Kd.N_slice HO114.out; subst eo32) | ((with_reducible refine gate_dst (N := 3) rfl ?_); (try (refine gate_guard (by rfl) ?_; dsimp only)); refine box_event ?hg (N := 3) ?hd (cs := #[.slice none 0 0, .slice none 0 0]) (t := 82) ?hr ?_; (case hd => rfl); (case hg => rfl); (case hr => first | (go_simp; done) | (go_simp; rfl)); intro gb118 hg w33 hbox hb; have n0_ := Aside0.mk (Kd.N_below (Kd.N_elderB (by (with_reducible repeat (first | apply Kd.N_alloc | apply Kd.N_drewN | apply Kd.N_drew)); exact HO114.out) gb118 (Nat.le_of_eq hg.symm)) hb); have n1_ := Aside0.mk (Kd.R_below (by (with_reducible repeat (first | apply Kd.R_alloc | apply Kd.R_drewN | apply Kd.R_drew)); exact HO117.out) hb); have n2_ := Aside0.mk (blk_below (g := gb101) (o := .cells #[.int .i64 1, .string (⟨#[97]⟩ : ByteArray), .int .i64 0, .string (⟨#[]⟩ : ByteArray), .int .i64 0, .int .i64 0, .slice (⟨none, 0, 0⟩ : SV).a (⟨none, 0, 0⟩ : SV).n (⟨none, 0, 0⟩ : SV).c] 124 (0, 0)) (by (with_reducible repeat (first | refine blk_drewN ?_ _ | refine blk_drew ?_ | refine blk_alloc ?_ _)); exact BK101.out) hb); have n3_ := Aside0.mk (blk_below (g := gb102) (o := .cells #[.int .i64 1, .string (⟨#[98]⟩ : ByteArray), .int .i64 0, .string (⟨#[]⟩ : ByteArray), .int .i64 0, .int .i64 0, .slice (⟨none, 0, 0⟩ : SV).a (⟨none, 0, 0⟩ : SV).n (⟨none, 0, 0⟩ : SV).c] 124 (0, 0)) (by (with_reducible repeat (first | refine blk_drewN ?_ _ | refine blk_drew ?_ | refine blk_alloc ?_ _)); exact BK102.out) hb); have n4_ := Aside0.mk (below_step (by repeat (first | (with_reducible first | exact HB.out | apply below_alloc | apply pw_below_drewN | apply below_drew1 | refine below_set ?_ GE101.out | refine below_set ?_ GE102.out) | exact HB.out)) hb); have n5_ := Aside0.mk (hbox); have n6_ := Aside0.mk ((by rw [hg]; exact (below_size (by repeat (first | (with_reducible first | exact HB.out | apply below_alloc | apply pw_below_drewN | apply below_drew1 | refine below_set ?_ GE101.out | refine below_set ?_ GE102.out) | exact HB.out))) : w.heap.size ≤ gb118)); have n7_ := Aside0.mk ((by rw [hg]; exact (below_size (by repeat (first | (with_reducible first | exact HB.out | apply below_alloc | apply pw_below_drewN | apply below_drew1 | refine below_set ?_ GE101.out | refine below_set ?_ GE102.out) | exact HB.out))) : w.heap.size ≤ gb118)); have n8_ := Aside0.mk ((by rw [hg]; exact Nat.ne_of_lt (blk_lt (g := gb101) (o := .cells #[.int .i64 1, .string (⟨#[97]⟩ : ByteArray), .int .i64 0, .string (⟨#[]⟩ : ByteArray), .int .i64 0, .int .i64 0, .slice (⟨none, 0, 0⟩ : SV).a (⟨none, 0, 0⟩ : SV).n (⟨none, 0, 0⟩ : SV).c] 124 (0, 0)) (by (with_reducible repeat (first | refine blk_drewN ?_ _ | refine blk_drew ?_ | refine blk_alloc ?_ _)); exact BK101.out)) : gb101 ≠ gb118)); have n9_ := Aside0.mk ((by rw [hg]; exact Nat.ne_of_gt (blk_lt (g := gb101) (o := .cells #[.int .i64 1, .string (⟨#[97]⟩ : ByteArray), .int .i64 0, .string (⟨#[]⟩ : ByteArray), .int .i64 0, .int .i64 0, .slice (⟨none, 0, 0⟩ : SV).a (⟨none, 0, 0⟩ : SV).n (⟨none, 0, 0⟩ : SV).c] 124 (0, 0)) (by (with_reducible repeat (first | refine blk_drewN ?_ _ | refine blk_drew ?_ | refine blk_alloc ?_ _)); exact BK101.out)) : gb118 ≠ gb101)); have n10_ := Aside0.mk ((by rw [hg]; exact Nat.ne_of_lt (blk_lt (g := gb102) (o := .cells #[.int .i64 1, .string (⟨#[98]⟩ : ByteArray), .int .i64 0, .string (⟨#[]⟩ : ByteArray), .int .i64 0, .int .i64 0, .slice (⟨none, 0, 0⟩ : SV).a (⟨none, 0, 0⟩ : SV).n (⟨none, 0, 0⟩ : SV).c] 124 (0, 0)) (by (with_reducible repeat (first | refine blk_drewN ?_ _ | refine blk_drew ?_ | refine blk_alloc ?_ _)); exact BK102.out)) : gb102 ≠ gb118)); have n11_ := Aside0.mk ((by rw [hg]; exact Nat.ne_of_gt (blk_lt (g := gb102) (o := .cells #[.int .i64 1, .string (⟨#[98]⟩ : ByteArray), .int .i64 0, .string (⟨#[]⟩ : ByteArray), .int .i64 0, .int .i64 0, .slice (⟨none, 0, 0⟩ : SV).a (⟨none, 0, 0⟩ : SV).n (⟨none, 0, 0⟩ : SV).c] 124 (0, 0)) (by (with_reducible repeat (first | refine blk_drewN ?_ _ | refine blk_drew ?_ | refine blk_alloc ?_ _)); exact BK102.out)) : gb118 ≠ gb102)); clear HO114; clear HO117; clear BK101; clear BK102; clear HB; have HO114 := n0_; have HO117 := n1_; have BK101 := n2_; have BK102 := n3_; have HB := n4_; have BK118 := n5_; have GW118 := n6_; have GE118 := n7_; have NB101_118 := n8_; have NB118_101 := n9_; have NB102_118 := n10_; have NB118_102 := n11_; clear n0_ n1_ n2_ n3_ n4_ n5_ n6_ n7_ n8_ n9_ n10_ n11_; clear hb hbox hg; have hnb34 := NB118_101.out; have hnc34 := NB101_118.out; have hnb35 := NB118_102.out; have hnc35 := NB102_118.out; have hcz36_0 : w33.cell? ⟨gb118, 0, none⟩ = some (.slice none 0 0) := (blk_cell BK118.out 0).trans rfl; have hcz36_1 : w33.cell? ⟨gb118, 1, none⟩ = some (.slice none 0 0) := (blk_cell BK118.out 1).trans rfl; have hfz36_0 := blk_frozen BK118.out 0; have hfz36_1 := blk_frozen BK118.out 1) | ((with_reducible refine gate_callee (f := 41) rfl ?_); refine goesL_ (some 16) rfl rfl Try.func41 (by kernel_rfl) rfl #[.agg #[.slice Ao32 y112.length co32, .slice Ao31 y115.length co31]] rfl (by (try simp only [List.map_toArray, List.map_cons, List.map_nil]); first | done | rfl | (simp only [List.length_drop, List.length_take]; rfl)) ?_; (with_reducible refine (bloom_Needs.calls k _ _ y112 _ _ y115 t119 _ ?side1 ?side2 ?side3 ?side4 A1.out).mono ?_); (case side1 => refine (Kd.N_reads' (e := 125) (base := w.heap.size) (ok := fun k_ => (((k_ ≠ gb101 ∧ k_ ≠ gb102) ∧ some k_ ≠ (.slice Ao31 y115.length co31 : Value).ownBlock) ∧ k_ ≠ gb118)) (n := y112.length) (c := co32) ?_).2.2; exact (by (with_reducible repeat (first | apply Kd.N_alloc | apply Kd.N_drewN | apply Kd.N_drew)); exact (Kd.N_mono (Kd.N_far (p := ⟨gb118, 1, none⟩) (Kd.N_far (p := ⟨gb118, 0, none⟩) (Kd.N_mono HO114.out (fun k_ hk => (⟨hk, hk.2⟩ : _ ∧ k_ ≠ gb118))) (fun _ hk => hk.2) (.slice Ao32 y112.length co32)) (fun _ hk => hk.2) (.slice Ao31 y115.length co31)) (fun _ h_ => h_.1)))); (case side2 => exact (Kd.N_reads' HO114.out).2.1); (case side3 => refine (Kd.R_reads' (e := 3) (base := w.heap.size) (ok := fun k_ => True) (n := y115.length) (c := co31) ?_).2.2; exact (by (with_reducible repeat (first | apply Kd.R_alloc | apply Kd.R_drewN | apply Kd.R_drew)); exact (Kd.R_mono (Kd.R_far (p := ⟨gb118, 1, none⟩) (Kd.R_far (p := ⟨gb118, 0, none⟩) (Kd.R_types HO117.out BK118.out (by decide)) (fun _ hk => hk.2) (.slice Ao32 y112.length co32)) (fun _ hk => hk.2) (.slice Ao31 y115.length co31)) (fun _ h_ => h_.1)))); (case side4 => exact (Kd.R_reads' HO117.out).2.1); rintro e w37 ⟨v120, rfl, ho0, hb⟩; refine ⟨_, rfl, ?_⟩; have n0_ := Aside0.mk (Kd.N_elder' (by (with_reducible repeat (first | apply Kd.N_alloc | apply Kd.N_drewN | apply Kd.N_drew)); exact (Kd.N_mono (Kd.N_far (p := ⟨gb118, 1, none⟩) (Kd.N_far (p := ⟨gb118, 0, none⟩) (Kd.N_mono HO114.out (fun k_ hk => (⟨hk, hk.2⟩ : _ ∧ k_ ≠ gb118))) (fun _ hk => hk.2) (.slice Ao32 y112.length co32)) (fun _ hk => hk.2) (.slice Ao31 y115.length co31)) (fun _ h_ => h_.1))) (Kd.R_base ho0) hb); have n1_ := Aside0.mk (Kd.R_below (by (with_reducible repeat (first | apply Kd.R_alloc | apply Kd.R_drewN | apply Kd.R_drew)); exact (Kd.R_mono (Kd.R_far (p := ⟨gb118, 1, none⟩) (Kd.R_far (p := ⟨gb118, 0, none⟩) (Kd.R_types HO117.out BK118.out (by decide)) (fun _ hk => hk.2) (.slice Ao32 y112.length co32)) (fun _ hk => hk.2) (.slice Ao31 y115.length co31)) (fun _ h_ => h_.1))) hb); have n2_ := Aside0.mk (Kd.R_lower ho0 (below_size (by repeat (first | (with_reducible first | exact HB.out | apply below_alloc | apply pw_below_drewN | apply below_drew1 | refine below_set ?_ GE101.out | refine below_set ?_ GE102.out | refine below_set ?_ GE118.out) | exact HB.out)))); have n3_ := Aside0.mk (blk_below (g := gb101) (o := .cells #[.int .i64 1, .string (⟨#[97]⟩ : ByteArray), .int .i64 0, .string (⟨#[]⟩ : ByteArray), .int .i64 0, .int .i64 0, .slice (⟨none, 0, 0⟩ : SV).a (⟨none, 0, 0⟩ : SV).n (⟨none, 0, 0⟩ : SV).c] 124 (0, 0)) (by (with_reducible repeat (first | refine blk_drewN ?_ _ | refine blk_drew ?_ | refine blk_alloc ?_ _)); refine blk_far ?_ NB101_118.out _; (with_reducible repeat (first | refine blk_drewN ?_ _ | refine blk_drew ?_ | refine blk_alloc ?_ _)); refine blk_far ?_ NB101_118.out _; (with_reducible repeat (first | refine blk_drewN ?_ _ | refine blk_drew ?_ | refine blk_alloc ?_ _)); exact BK101.out) hb); have n4_ := Aside0.mk (blk_below (g := gb102) (o := .cells #[.int .i64 1, .string (⟨#[98]⟩ : ByteArray), .int .i64 0, .string (⟨#[]⟩ : ByteArray), .int .i64 0, .int .i64 0, .slice (⟨none, 0, 0⟩ : SV).a (⟨none, 0, 0⟩ : SV).n (⟨none, 0, 0⟩ : SV).c] 124 (0, 0)) (by (with_reducible repeat (first | refine blk_drewN ?_ _ | refine blk_drew ?_ | refine blk_alloc ?_ _)); refine blk_far ?_ NB102_118.out _; (with_reducible repeat (first | refine blk_drewN ?_ _ | refine blk_drew ?_ | refine blk_alloc ?_ _)); refine blk_far ?_ NB102_118.out _; (with_reducible repeat (first | refine blk_drewN ?_ _ | refine blk_drew ?_ | refine blk_alloc ?_ _)); exact BK102.out) hb); have n5_ := Aside0.mk (blk_below (g := gb118) (o := .cells #[.slice Ao32 y112.length co32, .slice Ao31 y115.length co31] 82 (0, 0)) (by (with_reducible repeat (first | refine blk_drewN ?_ _ | refine blk_drew ?_ | refine blk_alloc ?_ _)); refine blk_put (cs := #[.slice Ao32 y112.length co32, .slice none 0 0]) ?_ 1 _ rfl; (with_reducible repeat (first | refine blk_drewN ?_ _ | refine blk_drew ?_ | refine blk_alloc ?_ _)); refine blk_put (cs := #[.slice none 0 0, .slice none 0 0]) ?_ 0 _ rfl; (with_reducible repeat (first | refine blk_drewN ?_ _ | refine blk_drew ?_ | refine blk_alloc ?_ _)); exact BK118.out) hb); have n6_ := Aside0.mk (below_step (by repeat (first | (with_reducible first | exact HB.out | apply below_alloc | apply pw_below_drewN | apply below_drew1 | refine below_set ?_ GE101.out | refine below_set ?_ GE102.out | refine below_set ?_ GE118.out) | exact HB.out)) hb); clear HO114; clear HO117; clear BK101; clear BK102; clear BK118; clear HB; have HO114 := n0_; have HO117 := n1_; have HO121 := n2_; have BK101 := n3_; have BK102 := n4_; have BK118 := n5_; have HB := n6_; clear n0_ n1_ n2_ n3_ n4_ n5_ n6_; (try clear hb); (try clear hb2); (try clear hk); (try clear hi); (try clear ho0)) | ((with_reducible refine gate_callee (f := 33) rfl ?_); refine goesL_ (some 17) rfl rfl Try.func33 (by kernel_rfl) rfl #[.int .i64 1, .string (⟨#[97]⟩ : ByteArray)] rfl (by (try simp only [List.map_toArray, List.map_cons, List.map_nil]); first | done | rfl | (simp only [List.length_drop, List.length_take]; rfl)) ?_; (with_reducible refine (bloom_Key.calls 1 (⟨#[97]⟩ : ByteArray) t122 _ A2.out).mono ?_); rintro e w38 ⟨rfl, hb⟩; refine ⟨_, rfl, ?_⟩; have n0_ := Aside0.mk (Kd.N_below (by (with_reducible repeat (first | apply Kd.N_alloc | apply Kd.N_drewN | apply Kd.N_drew)); exact HO114.out) hb); have n1_ := Aside0.mk (Kd.R_below (by (with_reducible repeat (first | apply Kd.R_alloc | apply Kd.R_drewN | apply Kd.R_drew)); exact HO117.out) hb); have n2_ := Aside0.mk (Kd.R_below (by (with_reducible repeat (first | apply Kd.R_alloc | apply Kd.R_drewN | apply Kd.R_drew)); exact HO121.out) hb); have n3_ := Aside0.mk (blk_below (g := gb101) (o := .cells #[.int .i64 1, .string (⟨#[97]⟩ : ByteArray), .int .i64 0, .string (⟨#[]⟩ : ByteArray), .int .i64 0, .int .i64 0, .slice (⟨none, 0, 0⟩ : SV).a (⟨none, 0, 0⟩ : SV).n (⟨none, 0, 0⟩ : SV).c] 124 (0, 0)) (by (with_reducible repeat (first | refine blk_drewN ?_ _ | refine blk_drew ?_ | refine blk_alloc ?_ _)); exact BK101.out) hb); have n4_ := Aside0.mk (blk_below (g := gb102) (o := .cells #[.int .i64 1, .string (⟨#[98]⟩ : ByteArray), .int .i64 0, .string (⟨#[]⟩ : ByteArray), .int .i64 0, .int .i64 0, .slice (⟨none, 0, 0⟩ : SV).a (⟨none, 0, 0⟩ : SV).n (⟨none, 0, 0⟩ : SV).c] 124 (0, 0)) (by (with_reducible repeat (first | refine blk_drewN ?_ _ | refine blk_drew ?_ | refine blk_alloc ?_ _)); exact BK102.out) hb); have n5_ := Aside0.mk (blk_below (g := gb118) (o := .cells #[.slice Ao32 y112.length co32, .slice Ao31 y115.length co31] 82 (0, 0)) (by (with_reducible repeat (first | refine blk_drewN ?_ _ | refine blk_drew ?_ | refine blk_alloc ?_ _)); exact BK118.out) hb); have n6_ := Aside0.mk (below_step (by repeat (first | (with_reducible first | exact HB.out | apply below_alloc | apply pw_below_drewN | apply below_drew1 | refine below_set ?_ GE101.out | refine below_set ?_ GE102.out | refine below_set ?_ GE118.out) | exact HB.out)) hb); clear HO114; clear HO117; clear HO121; clear BK101; clear BK102; clear BK118; clear HB; have HO114 := n0_; have HO117 := n1_; have HO121 := n2_; have BK101 := n3_; have BK102 := n4_; have BK118 := n5_; have HB := n6_; clear n0_ n1_ n2_ n3_ n4_ n5_ n6_; (try clear hb); (try clear hb2); (try clear hk); (try clear hi)) | ((with_reducible refine gate_dst (N := 18) rfl ?_); (try (refine gate_guard (by rfl) ?_; dsimp only)); refine Kd.R_lit (Kd.int .u32) _ 72 ?hg (N := 18) ?hd (xs := ([t122] : List Int)) (inner := [.int .u32 t122]) (ok := fun _ => True) (okp := fun _ => True) ?hr ?hp (fun _ hk => hk) trivial (Below.refl _ _) (Nat.le_refl _) (by simp) ?_; (case hd => rfl); (case hg => rfl); (case hr => first | (go_simp; done) | (go_simp; rfl)); (case hp => exact (Reps.one (show Kd.M (Kd.int .u32) _ _ _ t122 [.int .u32 t122] from rfl) (Reps.none _ _))); intro v124 w39 ho40 hb hg_ hnew_; clear hg_ hnew_; (first | rw [← Ny123.out] at ho40 | (simp only [Int.reduceToNat] at ho40; rw [← Ny123.out] at ho40)); have n0_ := Aside0.mk (Kd.N_elder' (by (with_reducible repeat (first | apply Kd.N_alloc | apply Kd.N_drewN | apply Kd.N_drew)); exact HO114.out) (Kd.R_base ho40) hb); have n1_ := Aside0.mk (Kd.R_below (by (with_reducible repeat (first | apply Kd.R_alloc | apply Kd.R_drewN | apply Kd.R_drew)); exact HO117.out) hb); have n2_ := Aside0.mk (Kd.R_elder' (by (with_reducible repeat (first | apply Kd.R_alloc | apply Kd.R_drewN | apply Kd.R_drew)); exact HO121.out) (Kd.R_base ho40) hb); have n3_ := Aside0.mk (Kd.R_lower (Kd.R_new' ho40 (Kd.R_lt (by (with_reducible repeat (first | apply Kd.R_alloc | apply Kd.R_drewN | apply Kd.R_drew)); exact HO121.out))) (below_size (by repeat (first | (with_reducible first | exact HB.out | apply below_alloc | apply pw_below_drewN | apply below_drew1 | refine below_set ?_ GE101.out | refine below_set ?_ GE102.out | refine below_set ?_ GE118.out) | exact HB.out)))); have n4_ := Aside0.mk (blk_below (g := gb101) (o := .cells #[.int .i64 1, .string (⟨#[97]⟩ : ByteArray), .int .i64 0, .string (⟨#[]⟩ : ByteArray), .int .i64 0, .int .i64 0, .slice (⟨none, 0, 0⟩ : SV).a (⟨none, 0, 0⟩ : SV).n (⟨none, 0, 0⟩ : SV).c] 124 (0, 0)) (by (with_reducible repeat (first | refine blk_drewN ?_ _ | refine blk_drew ?_ | refine blk_alloc ?_ _)); exact BK101.out) hb); have n5_ := Aside0.mk (blk_below (g := gb102) (o := .cells #[.int .i64 1, .string (⟨#[98]⟩ : ByteArray), .int .i64 0, .string (⟨#[]⟩ : ByteArray), .int .i64 0, .int .i64 0, .slice (⟨none, 0, 0⟩ : SV).a (⟨none, 0, 0⟩ : SV).n (⟨none, 0, 0⟩ : SV).c] 124 (0, 0)) (by (with_reducible repeat (first | refine blk_drewN ?_ _ | refine blk_drew ?_ | refine blk_alloc ?_ _)); exact BK102.out) hb); have n6_ := Aside0.mk (blk_below (g := gb118) (o := .cells #[.slice Ao32 y112.length co32, .slice Ao31 y115.length co31] 82 (0, 0)) (by (with_reducible repeat (first | refine blk_drewN ?_ _ | refine blk_drew ?_ | refine blk_alloc ?_ _)); exact BK118.out) hb); have n7_ := Aside0.mk (below_step (by repeat (first | (with_reducible first | exact HB.out | apply below_alloc | apply pw_below_drewN | apply below_drew1 | refine below_set ?_ GE101.out | refine below_set ?_ GE102.out | refine below_set ?_ GE118.out) | exact HB.out)) hb); clear HO114; clear HO117; clear HO121; clear BK101; clear BK102; clear BK118; clear HB; have HO114 := n0_; have HO117 := n1_; have HO121 := n2_; have HO125 := n3_; have BK101 := n4_; have BK102 := n5_; have BK118 := n6_; have HB := n7_; clear n0_ n1_ n2_ n3_ n4_ n5_ n6_ n7_; clear hb ho40; obtain ⟨Ao41, co41, eo41⟩ := Kd.R_slice HO121.out; subst eo41; obtain ⟨Ao42, co42, eo42⟩ := Kd.R_slice HO125.out; subst eo42) | ((with_reducible refine gate_callee (f := 40) rfl ?_); refine goesL_ (some 19) rfl rfl Try.func40 (by kernel_rfl) rfl #[.slice Ao41 t119.length co41, .slice Ao42 y123.length co42] rfl (by (try simp only [List.map_toArray, List.map_cons, List.map_nil]); first | done | rfl | (simp only [List.length_drop, List.length_take]; rfl)) ?_; (with_reducible refine (gouacheref10_Same.calls k _ _ t119 _ _ y123 true _ ?side1 ?side2 ?side3 ?side4 A3.out).mono ?_); (case side1 => repeat (first | exact (Kd.R_reads' HO121.out).2.2 | (with_reducible refine Kd.C_alloc ?_ _) | (with_reducible refine Kd.C_drewN ?_ _) | (with_reducible refine Kd.C_drew ?_))); (case side2 => exact (Kd.R_reads' HO121.out).2.1); (case side3 => repeat (first | exact (Kd.R_reads' HO125.out).2.2 | (with_reducible refine Kd.C_alloc ?_ _) | (with_reducible refine Kd.C_drewN ?_ _) | (with_reducible refine Kd.C_drew ?_))); (case side4 => exact (Kd.R_reads' HO125.out).2.1); rintro e w' ⟨rfl, ⟨nd, rfl⟩⟩; refine ⟨_, rfl, ?_⟩; have hcz43_0 : w39.cell? ⟨gb118, 0, none⟩ = some (.slice Ao32 y112.length co32) := (blk_cell BK118.out 0).trans rfl; have hcz43_1 : w39.cell? ⟨gb118, 1, none⟩ = some (.slice Ao31 y115.length co31) := (blk_cell BK118.out 1).trans rfl; have hfz43_0 := blk_frozen BK118.out 0; have hfz43_1 := blk_frozen BK118.out 1) | (go_at_call 43; (with_reducible refine (bloom_Skip.calls k 0 0 0 0 _ _ y112 _ _ y115 true _ ?side1 ?side2 ?side3 ?side4 A5.out).mono ?_); (case side1 => repeat (first | exact (Kd.N_reads' HO114.out).2.2 | (with_reducible refine Kd.C_alloc ?_ _) | (with_reducible refine Kd.C_drewN ?_ _) | (with_reducible refine Kd.C_drew ?_))); (case side2 => exact (Kd.N_reads' HO114.out).2.1); (case side3 => repeat (first | exact (Kd.R_reads' HO117.out).2.2 | (with_reducible refine Kd.C_alloc ?_ _) | (with_reducible refine Kd.C_drewN ?_ _) | (with_reducible refine Kd.C_drew ?_))); (case side4 => exact (Kd.R_reads' HO117.out).2.1); rintro e w44 ⟨rfl, hb⟩; have n0_ := Aside0.mk (Kd.N_below (by (with_reducible repeat (first | apply Kd.N_alloc | apply Kd.N_drewN | apply Kd.N_drew)); exact HO114.out) hb); have n1_ := Aside0.mk (Kd.R_below (by (with_reducible repeat (first | apply Kd.R_alloc | apply Kd.R_drewN | apply Kd.R_drew)); exact HO117.out) hb); have n2_ := Aside0.mk (Kd.R_below (by (with_reducible repeat (first | apply Kd.R_alloc | apply Kd.R_drewN | apply Kd.R_drew)); exact HO121.out) hb); have n3_ := Aside0.mk (Kd.R_below (by (with_reducible repeat (first | apply Kd.R_alloc | apply Kd.R_drewN | apply Kd.R_drew)); exact HO125.out) hb); have n4_ := Aside0.mk (blk_below (g := gb101) (o := .cells #[.int .i64 1, .string (⟨#[97]⟩ : ByteArray), .int .i64 0, .string (⟨#[]⟩ : ByteArray), .int .i64 0, .int .i64 0, .slice (⟨none, 0, 0⟩ : SV).a (⟨none, 0, 0⟩ : SV).n (⟨none, 0, 0⟩ : SV).c] 124 (0, 0)) (by (with_reducible repeat (first | refine blk_drewN ?_ _ | refine blk_drew ?_ | refine blk_alloc ?_ _)); exact BK101.out) hb); have n5_ := Aside0.mk (blk_below (g := gb102) (o := .cells #[.int .i64 1, .string (⟨#[98]⟩ : ByteArray), .int .i64 0, .string (⟨#[]⟩ : ByteArray), .int .i64 0, .int .i64 0, .slice (⟨none, 0, 0⟩ : SV).a (⟨none, 0, 0⟩ : SV).n (⟨none, 0, 0⟩ : SV).c] 124 (0, 0)) (by (with_reducible repeat (first | refine blk_drewN ?_ _ | refine blk_drew ?_ | refine blk_alloc ?_ _)); exact BK102.out) hb); have n6_ := Aside0.mk (blk_below (g := gb118) (o := .cells #[.slice Ao32 y112.length co32, .slice Ao31 y115.length co31] 82 (0, 0)) (by (with_reducible repeat (first | refine blk_drewN ?_ _ | refine blk_drew ?_ | refine blk_alloc ?_ _)); exact BK118.out) hb); have n7_ := Aside0.mk (below_step (by repeat (first | (with_reducible first | exact HB.out | apply below_alloc | apply pw_below_drewN | apply below_drew1 | refine below_set ?_ GE101.out | refine below_set ?_ GE102.out | refine below_set ?_ GE118.out) | exact HB.out)) hb); clear HO114; clear HO117; clear HO121; clear HO125; clear BK101; clear BK102; clear BK118; clear HB; have HO114 := n0_; have HO117 := n1_; have HO121 := n2_; have HO125 := n3_; have BK101 := n4_; have BK102 := n5_; have BK118 := n6_; have HB := n7_; clear n0_ n1_ n2_ n3_ n4_ n5_ n6_ n7_; (try clear hb); (try clear hb2); (try clear hk); (try clear hi); have hcz45_0 : w44.cell? ⟨gb102, 0, none⟩ = some (.int .i64 1) := (blk_cell BK102.out 0).trans rfl; have hcz45_1 : w44.cell? ⟨gb102, 1, none⟩ = some (.string (⟨#[98]⟩ : ByteArray)) := (blk_cell BK102.out 1).trans rfl; have hcz45_2 : w44.cell? ⟨gb102, 2, none⟩ = some (.int .i64 0) := (blk_cell BK102.out 2).trans rfl; have hcz45_3 : w44.cell? ⟨gb102, 3, none⟩ = some (.string (⟨#[]⟩ : ByteArray)) := (blk_cell BK102.out 3).trans rfl; have hcz45_4 : w44.cell? ⟨gb102, 4, none⟩ = some (.int .i64 0) := (blk_cell BK102.out 4).trans rfl; have hcz45_5 : w44.cell? ⟨gb102, 5, none⟩ = some (.int .i64 0) := (blk_cell BK102.out 5).trans rfl; have hcz45_6 : w44.cell? ⟨gb102, 6, none⟩ = some (.slice (⟨none, 0, 0⟩ : SV).a (⟨none, 0, 0⟩ : SV).n (⟨none, 0, 0⟩ : SV).c) := (blk_cell BK102.out 6).trans rfl; have hfz45_0 := blk_frozen BK102.out 0; have hfz45_1 := blk_frozen BK102.out 1; have hfz45_2 := blk_frozen BK102.out 2; have hfz45_3 := blk_frozen BK102.out 3; have hfz45_4 := blk_frozen BK102.out 4; have hfz45_5 := blk_frozen BK102.out 5; have hfz45_6 := blk_frozen BK102.out 6) | ((with_reducible refine gate_dst (N := 28) rfl ?_); (try (refine gate_guard (by rfl) ?_; dsimp only)); refine Kd.R_lit k124 _ 124 ?hg (N := 28) ?hd (xs := ([(⟨1, (⟨#[98]⟩ : ByteArray), 0, (⟨#[]⟩ : ByteArray), 0, 0, (⟨none, 0, 0⟩ : SV)⟩ : S124)] : List (S124))) (inner := [.int .i64 1, .string (⟨#[98]⟩ : ByteArray), .int .i64 0, .string (⟨#[]⟩ : ByteArray), .int .i64 0, .int .i64 0, .slice (⟨none, 0, 0⟩ : SV).a (⟨none, 0, 0⟩ : SV).n (⟨none, 0, 0⟩ : SV).c]) (ok := fun _ => True) (okp := fun _ => True) ?hr ?hp (fun _ hk => hk) trivial (Below.refl _ _) (Nat.le_refl _) (by simp) ?_; (case hd => rfl); (case hg => rfl); (case hr => first | (go_simp; done) | (go_simp; rfl)); (case hp => exact (Reps.c7 (show Kd.M k124 _ _ _ (⟨1, (⟨#[98]⟩ : ByteArray), 0, (⟨#[]⟩ : ByteArray), 0, 0, (⟨none, 0, 0⟩ : SV)⟩ : S124) [.int .i64 1, .string (⟨#[98]⟩ : ByteArray), .int .i64 0, .string (⟨#[]⟩ : ByteArray), .int .i64 0, .int .i64 0, .slice (⟨none, 0, 0⟩ : SV).a (⟨none, 0, 0⟩ : SV).n (⟨none, 0, 0⟩ : SV).c] from (k124_mkM _ _ _ (⟨1, (⟨#[98]⟩ : ByteArray), 0, (⟨#[]⟩ : ByteArray), 0, 0, (⟨none, 0, 0⟩ : SV)⟩ : S124) )) (Reps.none _ _))); intro v129 w46 ho47 hb hg_ hnew_; clear hg_ hnew_; (first | rw [← Ny128.out] at ho47 | (simp only [Int.reduceToNat] at ho47; rw [← Ny128.out] at ho47)); have n0_ := Aside0.mk (Kd.N_elder' (by (with_reducible repeat (first | apply Kd.N_alloc | apply Kd.N_drewN | apply Kd.N_drew)); exact HO114.out) (Kd.R_base ho47) hb); have n1_ := Aside0.mk (Kd.R_below (by (with_reducible repeat (first | apply Kd.R_alloc | apply Kd.R_drewN | apply Kd.R_drew)); exact HO117.out) hb); have n2_ := Aside0.mk (Kd.R_below (by (with_reducible repeat (first | apply Kd.R_alloc | apply Kd.R_drewN | apply Kd.R_drew)); exact HO121.out) hb); have n3_ := Aside0.mk (Kd.R_below (by (with_reducible repeat (first | apply Kd.R_alloc | apply Kd.R_drewN | apply Kd.R_drew)); exact HO125.out) hb); have n4_ := Aside0.mk (Kd.R_lower (Kd.R_newB (Kd.R_newB ho47 (g := gb101) (o := .cells #[.int .i64 1, .string (⟨#[97]⟩ : ByteArray), .int .i64 0, .string (⟨#[]⟩ : ByteArray), .int .i64 0, .int .i64 0, .slice (⟨none, 0, 0⟩ : SV).a (⟨none, 0, 0⟩ : SV).n (⟨none, 0, 0⟩ : SV).c] 124 (0, 0)) (by (with_reducible repeat (first | refine blk_drewN ?_ _ | refine blk_drew ?_ | refine blk_alloc ?_ _)); exact BK101.out)) (g := gb102) (o := .cells #[.int .i64 1, .string (⟨#[98]⟩ : ByteArray), .int .i64 0, .string (⟨#[]⟩ : ByteArray), .int .i64 0, .int .i64 0, .slice (⟨none, 0, 0⟩ : SV).a (⟨none, 0, 0⟩ : SV).n (⟨none, 0, 0⟩ : SV).c] 124 (0, 0)) (by (with_reducible repeat (first | refine blk_drewN ?_ _ | refine blk_drew ?_ | refine blk_alloc ?_ _)); exact BK102.out)) (below_size (by repeat (first | (with_reducible first | exact HB.out | apply below_alloc | apply pw_below_drewN | apply below_drew1 | refine below_set ?_ GE101.out | refine below_set ?_ GE102.out | refine below_set ?_ GE118.out) | exact HB.out)))); have n5_ := Aside0.mk (blk_below (g := gb101) (o := .cells #[.int .i64 1, .string (⟨#[97]⟩ : ByteArray), .int .i64 0, .string (⟨#[]⟩ : ByteArray), .int .i64 0, .int .i64 0, .slice (⟨none, 0, 0⟩ : SV).a (⟨none, 0, 0⟩ : SV).n (⟨none, 0, 0⟩ : SV).c] 124 (0, 0)) (by (with_reducible repeat (first | refine blk_drewN ?_ _ | refine blk_drew ?_ | refine blk_alloc ?_ _)); exact BK101.out) hb); have n6_ := Aside0.mk (blk_below (g := gb102) (o := .cells #[.int .i64 1, .string (⟨#[98]⟩ : ByteArray), .int .i64 0, .string (⟨#[]⟩ : ByteArray), .int .i64 0, .int .i64 0, .slice (⟨none, 0, 0⟩ : SV).a (⟨none, 0, 0⟩ : SV).n (⟨none, 0, 0⟩ : SV).c] 124 (0, 0)) (by (with_reducible repeat (first | refine blk_drewN ?_ _ | refine blk_drew ?_ | refine blk_alloc ?_ _)); exact BK102.out) hb); have n7_ := Aside0.mk (blk_below (g := gb118) (o := .cells #[.slice Ao32 y112.length co32, .slice Ao31 y115.length co31] 82 (0, 0)) (by (with_reducible repeat (first | refine blk_drewN ?_ _ | refine blk_drew ?_ | refine blk_alloc ?_ _)); exact BK118.out) hb); have n8_ := Aside0.mk (below_step (by repeat (first | (with_reducible first | exact HB.out | apply below_alloc | apply pw_below_drewN | apply below_drew1 | refine below_set ?_ GE101.out | refine below_set ?_ GE102.out | refine below_set ?_ GE118.out) | exact HB.out)) hb); clear HO114; clear HO117; clear HO121; clear HO125; clear BK101; clear BK102; clear BK118; clear HB; have HO114 := n0_; have HO117 := n1_; have HO121 := n2_; have HO125 := n3_; have HO130 := n4_; have BK101 := n5_; have BK102 := n6_; have BK118 := n7_; have HB := n8_; clear n0_ n1_ n2_ n3_ n4_ n5_ n6_ n7_ n8_; clear hb ho47; obtain ⟨Ao48, co48, eo48⟩ := Kd.R_slice HO130.out; subst eo48) | ((with_reducible refine gate_dst (N := 29) rfl ?_); (try (refine gate_guard (by rfl) ?_; dsimp only)); refine Kd.N_lit (Kd.slice 124 k124) _ 125 ?hg (N' := 29) ?hd (xs := ([y128] : List (List (S124)))) (inner := [.slice Ao48 y128.length co48]) (ok := (fun k_ => some k_ ≠ (.slice Ao32 y112.length co32 : Value).ownBlock ∧ some k_ ≠ (.slice Ao31 y115.length co31 : Value).ownBlock ∧ some k_ ≠ (.slice Ao41 t119.length co41 : Value).ownBlock ∧ some k_ ≠ (.slice Ao42 y123.length co42 : Value).ownBlock ∧ k_ ≠ gb101 ∧ k_ ≠ gb102 ∧ k_ ≠ gb118)) (okp := (fun k_ => some k_ ≠ (.slice Ao32 y112.length co32 : Value).ownBlock ∧ some k_ ≠ (.slice Ao31 y115.length co31 : Value).ownBlock ∧ some k_ ≠ (.slice Ao41 t119.length co41 : Value).ownBlock ∧ some k_ ≠ (.slice Ao42 y123.length co42 : Value).ownBlock ∧ k_ ≠ gb101 ∧ k_ ≠ gb102 ∧ k_ ≠ gb118)) ?hr ?hp (fun _ hk => hk) ((show ∀ k_, w46.heap.size ≤ k_ → (fun k_ => some k_ ≠ (.slice Ao32 y112.length co32 : Value).ownBlock ∧ some k_ ≠ (.slice Ao31 y115.length co31 : Value).ownBlock ∧ some k_ ≠ (.slice Ao41 t119.length co41 : Value).ownBlock ∧ some k_ ≠ (.slice Ao42 y123.length co42 : Value).ownBlock ∧ k_ ≠ gb101 ∧ k_ ≠ gb102 ∧ k_ ≠ gb118) k_ from fun k_ hk => ⟨Kd.fresh' (Kd.N_lt (by (with_reducible repeat (first | apply Kd.N_alloc | apply Kd.N_drewN | apply Kd.N_drew)); exact HO114.out)) k_ hk, Kd.fresh' (Kd.R_lt (by (with_reducible repeat (first | apply Kd.R_alloc | apply Kd.R_drewN | apply Kd.R_drew)); exact HO117.out)) k_ hk, Kd.fresh' (Kd.R_lt (by (with_reducible repeat (first | apply Kd.R_alloc | apply Kd.R_drewN | apply Kd.R_drew)); exact HO121.out)) k_ hk, Kd.fresh' (Kd.R_lt (by (with_reducible repeat (first | apply Kd.R_alloc | apply Kd.R_drewN | apply Kd.R_drew)); exact HO125.out)) k_ hk, Kd.freshB (g := gb101) (o := .cells #[.int .i64 1, .string (⟨#[97]⟩ : ByteArray), .int .i64 0, .string (⟨#[]⟩ : ByteArray), .int .i64 0, .int .i64 0, .slice (⟨none, 0, 0⟩ : SV).a (⟨none, 0, 0⟩ : SV).n (⟨none, 0, 0⟩ : SV).c] 124 (0, 0)) (by (with_reducible repeat (first | refine blk_drewN ?_ _ | refine blk_drew ?_ | refine blk_alloc ?_ _)); exact BK101.out) k_ hk, Kd.freshB (g := gb102) (o := .cells #[.int .i64 1, .string (⟨#[98]⟩ : ByteArray), .int .i64 0, .string (⟨#[]⟩ : ByteArray), .int .i64 0, .int .i64 0, .slice (⟨none, 0, 0⟩ : SV).a (⟨none, 0, 0⟩ : SV).n (⟨none, 0, 0⟩ : SV).c] 124 (0, 0)) (by (with_reducible repeat (first | refine blk_drewN ?_ _ | refine blk_drew ?_ | refine blk_alloc ?_ _)); exact BK102.out) k_ hk, Kd.freshB (g := gb118) (o := .cells #[.slice Ao32 y112.length co32, .slice Ao31 y115.length co31] 82 (0, 0)) (by (with_reducible repeat (first | refine blk_drewN ?_ _ | refine blk_drew ?_ | refine blk_alloc ?_ _)); exact BK118.out) k_ hk⟩) _ (Nat.le_refl _)) (Below.refl _ _) (Nat.le_refl _) (by simp) ?_; (case hd => rfl); (case hg => rfl); (case hr => first | (go_simp; done) | (go_simp; rfl)); (case hp => exact (Reps.one (show Kd.FK (Kd.slice 124 k124) _ _ y128 [.slice Ao48 y128.length co48] from (Kd.FK_slice_mk (Kd.R_reads' (Kd.R_mono (ok' := (fun k_ => some k_ ≠ (.slice Ao32 y112.length co32 : Value).ownBlock ∧ some k_ ≠ (.slice Ao31 y115.length co31 : Value).ownBlock ∧ some k_ ≠ (.slice Ao41 t119.length co41 : Value).ownBlock ∧ some k_ ≠ (.slice Ao42 y123.length co42 : Value).ownBlock ∧ k_ ≠ gb101 ∧ k_ ≠ gb102 ∧ k_ ≠ gb118)) (Kd.R_types (Kd.R_apart' (Kd.R_apart' (Kd.R_apart' (Kd.R_apart' (HO130.out) (Kd.N_typed HO114.out) (by decide)) (Kd.R_typed HO117.out) (by decide)) (Kd.R_typed HO121.out) (by decide)) (Kd.R_typed HO125.out) (by decide)) BK118.out (by decide)) (fun k_ hk => ⟨hk.1.1.1.1.2, ⟨hk.1.1.1.2, ⟨hk.1.1.2, ⟨hk.1.2, ⟨hk.1.1.1.1.1.1.2, ⟨hk.1.1.1.1.1.2, hk.2⟩⟩⟩⟩⟩⟩))).2.1 (Kd.R_F (Kd.R_mono (ok' := (fun k_ => some k_ ≠ (.slice Ao32 y112.length co32 : Value).ownBlock ∧ some k_ ≠ (.slice Ao31 y115.length co31 : Value).ownBlock ∧ some k_ ≠ (.slice Ao41 t119.length co41 : Value).ownBlock ∧ some k_ ≠ (.slice Ao42 y123.length co42 : Value).ownBlock ∧ k_ ≠ gb101 ∧ k_ ≠ gb102 ∧ k_ ≠ gb118)) (Kd.R_types (Kd.R_apart' (Kd.R_apart' (Kd.R_apart' (Kd.R_apart' (HO130.out) (Kd.N_typed HO114.out) (by decide)) (Kd.R_typed HO117.out) (by decide)) (Kd.R_typed HO121.out) (by decide)) (Kd.R_typed HO125.out) (by decide)) BK118.out (by decide)) (fun k_ hk => ⟨hk.1.1.1.1.2, ⟨hk.1.1.1.2, ⟨hk.1.1.2, ⟨hk.1.2, ⟨hk.1.1.1.1.1.1.2, ⟨hk.1.1.1.1.1.2, hk.2⟩⟩⟩⟩⟩⟩))))) (Reps.none _ _))); intro v132 w49 ho50 hb hg_ hnew_; clear hg_ hnew_; (first | rw [← Ny131.out] at ho50 | (simp only [Int.reduceToNat] at ho50; rw [← Ny131.out] at ho50)); have n0_ := Aside0.mk (Kd.N_elder' (by (with_reducible repeat (first | apply Kd.N_alloc | apply Kd.N_drewN | apply Kd.N_drew)); exact HO114.out) (Kd.N_base ho50) hb); have n1_ := Aside0.mk (Kd.R_below (by (with_reducible repeat (first | apply Kd.R_alloc | apply Kd.R_drewN | apply Kd.R_drew)); exact HO117.out) hb); have n2_ := Aside0.mk (Kd.R_below (by (with_reducible repeat (first | apply Kd.R_alloc | apply Kd.R_drewN | apply Kd.R_drew)); exact HO121.out) hb); have n3_ := Aside0.mk (Kd.R_below (by (with_reducible repeat (first | apply Kd.R_alloc | apply Kd.R_drewN | apply Kd.R_drew)); exact HO125.out) hb); have n4_ := Aside0.mk (Kd.N_lower ho50 (below_size (by repeat (first | (with_reducible first | exact HB.out | apply below_alloc | apply pw_below_drewN | apply below_drew1 | refine below_set ?_ GE101.out | refine below_set ?_ GE102.out | refine below_set ?_ GE118.out) | exact HB.out)))); have n5_ := Aside0.mk (blk_below (g := gb101) (o := .cells #[.int .i64 1, .string (⟨#[97]⟩ : ByteArray), .int .i64 0, .string (⟨#[]⟩ : ByteArray), .int .i64 0, .int .i64 0, .slice (⟨none, 0, 0⟩ : SV).a (⟨none, 0, 0⟩ : SV).n (⟨none, 0, 0⟩ : SV).c] 124 (0, 0)) (by (with_reducible repeat (first | refine blk_drewN ?_ _ | refine blk_drew ?_ | refine blk_alloc ?_ _)); exact BK101.out) hb); have n6_ := Aside0.mk (blk_below (g := gb102) (o := .cells #[.int .i64 1, .string (⟨#[98]⟩ : ByteArray), .int .i64 0, .string (⟨#[]⟩ : ByteArray), .int .i64 0, .int .i64 0, .slice (⟨none, 0, 0⟩ : SV).a (⟨none, 0, 0⟩ : SV).n (⟨none, 0, 0⟩ : SV).c] 124 (0, 0)) (by (with_reducible repeat (first | refine blk_drewN ?_ _ | refine blk_drew ?_ | refine blk_alloc ?_ _)); exact BK102.out) hb); have n7_ := Aside0.mk (blk_below (g := gb118) (o := .cells #[.slice Ao32 y112.length co32, .slice Ao31 y115.length co31] 82 (0, 0)) (by (with_reducible repeat (first | refine blk_drewN ?_ _ | refine blk_drew ?_ | refine blk_alloc ?_ _)); exact BK118.out) hb); have n8_ := Aside0.mk (below_step (by repeat (first | (with_reducible first | exact HB.out | apply below_alloc | apply pw_below_drewN | apply below_drew1 | refine below_set ?_ GE101.out | refine below_set ?_ GE102.out | refine below_set ?_ GE118.out) | exact HB.out)) hb); clear HO114; clear HO117; clear HO121; clear HO125; clear BK101; clear BK102; clear BK118; clear HB; clear HO130; have HO114 := n0_; have HO117 := n1_; have HO121 := n2_; have HO125 := n3_; have HO133 := n4_; have BK101 := n5_; have BK102 := n6_; have BK118 := n7_; have HB := n8_; clear n0_ n1_ n2_ n3_ n4_ n5_ n6_ n7_ n8_; clear hb ho50; obtain ⟨Ao51, co51, eo51⟩ := Kd.N_slice HO133.out; subst eo51) | (go_at_call 43; (refine (bloom_Skip.calls k 0 0 0 0 _ _ y131 _ _ ([] : List Int) false _ ?side1 ?side2 ?side3 ?side4 A7.out).mono ?_); (case side1 => repeat (first | exact (Kd.N_reads' HO133.out).2.2 | (with_reducible refine Kd.C_alloc ?_ _) | (with_reducible refine Kd.C_drewN ?_ _) | (with_reducible refine Kd.C_drew ?_))); (case side2 => exact (Kd.N_reads' HO133.out).2.1); (case side3 => exact Kd.C_nil _ _); (case side4 => exact Nat.le_refl _); rintro e w52 ⟨rfl, hb⟩; have n0_ := Aside0.mk (Kd.N_below (by (with_reducible repeat (first | apply Kd.N_alloc | apply Kd.N_drewN | apply Kd.N_drew)); exact HO114.out) hb); have n1_ := Aside0.mk (Kd.R_below (by (with_reducible repeat (first | apply Kd.R_alloc | apply Kd.R_drewN | apply Kd.R_drew)); exact HO117.out) hb); have n2_ := Aside0.mk (Kd.R_below (by (with_reducible repeat (first | apply Kd.R_alloc | apply Kd.R_drewN | apply Kd.R_drew)); exact HO121.out) hb); have n3_ := Aside0.mk (Kd.R_below (by (with_reducible repeat (first | apply Kd.R_alloc | apply Kd.R_drewN | apply Kd.R_drew)); exact HO125.out) hb); have n4_ := Aside0.mk (Kd.N_below (by (with_reducible repeat (first | apply Kd.N_alloc | apply Kd.N_drewN | apply Kd.N_drew)); exact HO133.out) hb); have n5_ := Aside0.mk (blk_below (g := gb101) (o := .cells #[.int .i64 1, .string (⟨#[97]⟩ : ByteArray), .int .i64 0, .string (⟨#[]⟩ : ByteArray), .int .i64 0, .int .i64 0, .slice (⟨none, 0, 0⟩ : SV).a (⟨none, 0, 0⟩ : SV).n (⟨none, 0, 0⟩ : SV).c] 124 (0, 0)) (by (with_reducible repeat (first | refine blk_drewN ?_ _ | refine blk_drew ?_ | refine blk_alloc ?_ _)); exact BK101.out) hb); have n6_ := Aside0.mk (blk_below (g := gb102) (o := .cells #[.int .i64 1, .string (⟨#[98]⟩ : ByteArray), .int .i64 0, .string (⟨#[]⟩ : ByteArray), .int .i64 0, .int .i64 0, .slice (⟨none, 0, 0⟩ : SV).a (⟨none, 0, 0⟩ : SV).n (⟨none, 0, 0⟩ : SV).c] 124 (0, 0)) (by (with_reducible repeat (first | refine blk_drewN ?_ _ | refine blk_drew ?_ | refine blk_alloc ?_ _)); exact BK102.out) hb); have n7_ := Aside0.mk (blk_below (g := gb118) (o := .cells #[.slice Ao32 y112.length co32, .slice Ao31 y115.length co31] 82 (0, 0)) (by (with_reducible repeat (first | refine blk_drewN ?_ _ | refine blk_drew ?_ | refine blk_alloc ?_ _)); exact BK118.out) hb); have n8_ := Aside0.mk (below_step (by repeat (first | (with_reducible first | exact HB.out | apply below_alloc | apply pw_below_drewN | apply below_drew1 | refine below_set ?_ GE101.out | refine below_set ?_ GE102.out | refine below_set ?_ GE118.out) | exact HB.out)) hb); clear HO114; clear HO117; clear HO121; clear HO125; clear HO133; clear BK101; clear BK102; clear BK118; clear HB; have HO114 := n0_; have HO117 := n1_; have HO121 := n2_; have HO125 := n3_; have HO133 := n4_; have BK101 := n5_; have BK102 := n6_; have BK118 := n7_; have HB := n8_; clear n0_ n1_ n2_ n3_ n4_ n5_ n6_ n7_ n8_; (try clear hb); (try clear hb2); (try clear hk); (try clear hi)) | (go_at_call 33; (with_reducible refine (bloom_Key.calls 1 (⟨#[97]⟩ : ByteArray) t135 _ A9.out).mono ?_); rintro e w53 ⟨rfl, hb⟩; have n0_ := Aside0.mk (Kd.N_below (by (with_reducible repeat (first | apply Kd.N_alloc | apply Kd.N_drewN | apply Kd.N_drew)); exact HO114.out) hb); have n1_ := Aside0.mk (Kd.R_below (by (with_reducible repeat (first | apply Kd.R_alloc | apply Kd.R_drewN | apply Kd.R_drew)); exact HO117.out) hb); have n2_ := Aside0.mk (Kd.R_below (by (with_reducible repeat (first | apply Kd.R_alloc | apply Kd.R_drewN | apply Kd.R_drew)); exact HO121.out) hb); have n3_ := Aside0.mk (Kd.R_below (by (with_reducible repeat (first | apply Kd.R_alloc | apply Kd.R_drewN | apply Kd.R_drew)); exact HO125.out) hb); have n4_ := Aside0.mk (Kd.N_below (by (with_reducible repeat (first | apply Kd.N_alloc | apply Kd.N_drewN | apply Kd.N_drew)); exact HO133.out) hb); have n5_ := Aside0.mk (blk_below (g := gb101) (o := .cells #[.int .i64 1, .string (⟨#[97]⟩ : ByteArray), .int .i64 0, .string (⟨#[]⟩ : ByteArray), .int .i64 0, .int .i64 0, .slice (⟨none, 0, 0⟩ : SV).a (⟨none, 0, 0⟩ : SV).n (⟨none, 0, 0⟩ : SV).c] 124 (0, 0)) (by (with_reducible repeat (first | refine blk_drewN ?_ _ | refine blk_drew ?_ | refine blk_alloc ?_ _)); exact BK101.out) hb); have n6_ := Aside0.mk (blk_below (g := gb102) (o := .cells #[.int .i64 1, .string (⟨#[98]⟩ : ByteArray), .int .i64 0, .string (⟨#[]⟩ : ByteArray), .int .i64 0, .int .i64 0, .slice (⟨none, 0, 0⟩ : SV).a (⟨none, 0, 0⟩ : SV).n (⟨none, 0, 0⟩ : SV).c] 124 (0, 0)) (by (with_reducible repeat (first | refine blk_drewN ?_ _ | refine blk_drew ?_ | refine blk_alloc ?_ _)); exact BK102.out) hb); have n7_ := Aside0.mk (blk_below (g := gb118) (o := .cells #[.slice Ao32 y112.length co32, .slice Ao31 y115.length co31] 82 (0, 0)) (by (with_reducible repeat (first | refine blk_drewN ?_ _ | refine blk_drew ?_ | refine blk_alloc ?_ _)); exact BK118.out) hb); have n8_ := Aside0.mk (below_step (by repeat (first | (with_reducible first | exact HB.out | apply below_alloc | apply pw_below_drewN | apply below_drew1 | refine below_set ?_ GE101.out | refine below_set ?_ GE102.out | refine below_set ?_ GE118.out) | exact HB.out)) hb); clear HO114; clear HO117; clear HO121; clear HO125; clear HO133; clear BK101; clear BK102; clear BK118; clear HB; have HO114 := n0_; have HO117 := n1_; have HO121 := n2_; have HO125 := n3_; have HO133 := n4_; have BK101 := n5_; have BK102 := n6_; have BK118 := n7_; have HB := n8_; clear n0_ n1_ n2_ n3_ n4_ n5_ n6_ n7_ n8_; (try clear hb); (try clear hb2); (try clear hk); (try clear hi)) | (go_at_call 35; (with_reducible refine (gouacheref10_Key.calls k 1 (⟨#[97]⟩ : ByteArray) t136 _ A10.out).mono ?_); rintro e w54 ⟨rfl, hb⟩; have n0_ := Aside0.mk (Kd.N_below (by (with_reducible repeat (first | apply Kd.N_alloc | apply Kd.N_drewN | apply Kd.N_drew)); exact HO114.out) hb); have n1_ := Aside0.mk (Kd.R_below (by (with_reducible repeat (first | apply Kd.R_alloc | apply Kd.R_drewN | apply Kd.R_drew)); exact HO117.out) hb); have n2_ := Aside0.mk (Kd.R_below (by (with_reducible repeat (first | apply Kd.R_alloc | apply Kd.R_drewN | apply Kd.R_drew)); exact HO121.out) hb); have n3_ := Aside0.mk (Kd.R_below (by (with_reducible repeat (first | apply Kd.R_alloc | apply Kd.R_drewN | apply Kd.R_drew)); exact HO125.out) hb); have n4_ := Aside0.mk (Kd.N_below (by (with_reducible repeat (first | apply Kd.N_alloc | apply Kd.N_drewN | apply Kd.N_drew)); exact HO133.out) hb); have n5_ := Aside0.mk (blk_below (g := gb101) (o := .cells #[.int .i64 1, .string (⟨#[97]⟩ : ByteArray), .int .i64 0, .string (⟨#[]⟩ : ByteArray), .int .i64 0, .int .i64 0, .slice (⟨none, 0, 0⟩ : SV).a (⟨none, 0, 0⟩ : SV).n (⟨none, 0, 0⟩ : SV).c] 124 (0, 0)) (by (with_reducible repeat (first | refine blk_drewN ?_ _ | refine blk_drew ?_ | refine blk_alloc ?_ _)); exact BK101.out) hb); have n6_ := Aside0.mk (blk_below (g := gb102) (o := .cells #[.int .i64 1, .string (⟨#[98]⟩ : ByteArray), .int .i64 0, .string (⟨#[]⟩ : ByteArray), .int .i64 0, .int .i64 0, .slice (⟨none, 0, 0⟩ : SV).a (⟨none, 0, 0⟩ : SV).n (⟨none, 0, 0⟩ : SV).c] 124 (0, 0)) (by (with_reducible repeat (first | refine blk_drewN ?_ _ | refine blk_drew ?_ | refine blk_alloc ?_ _)); exact BK102.out) hb); have n7_ := Aside0.mk (blk_below (g := gb118) (o := .cells #[.slice Ao32 y112.length co32, .slice Ao31 y115.length co31] 82 (0, 0)) (by (with_reducible repeat (first | refine blk_drewN ?_ _ | refine blk_drew ?_ | refine blk_alloc ?_ _)); exact BK118.out) hb); have n8_ := Aside0.mk (below_step (by repeat (first | (with_reducible first | exact HB.out | apply below_alloc | apply pw_below_drewN | apply below_drew1 | refine below_set ?_ GE101.out | refine below_set ?_ GE102.out | refine below_set ?_ GE118.out) | exact HB.out)) hb); clear HO114; clear HO117; clear HO121; clear HO125; clear HO133; clear BK101; clear BK102; clear BK118; clear HB; have HO114 := n0_; have HO117 := n1_; have HO121 := n2_; have HO125 := n3_; have HO133 := n4_; have BK101 := n5_; have BK102 := n6_; have BK118 := n7_; have HB := n8_; clear n0_ n1_ n2_ n3_ n4_ n5_ n6_ n7_ n8_; (try clear hb); (try clear hb2); (try clear hk); (try clear hi)))
        go_ret
        exact ⟨by first | rfl | (simp [errW_none, errW_some] <;> rfl) | (simp [*, errW_none, errW_some] <;> rfl), by repeat (first | (with_reducible first | exact HB.out | apply below_alloc | apply pw_below_drewN | apply below_drew1 | refine below_set ?_ GE101.out | refine below_set ?_ GE102.out | refine below_set ?_ GE118.out) | exact HB.out)⟩
    · replace c6 := Bool.eq_false_iff.mpr c6
      subst c6
      have H1 : (none) = some r := by rw [if_neg (show ¬ (false = true) by decide)] at H; exact H
      clear H
      have H := H1
      clear H1
      exact absurd H (by simp)
  · replace c4 := Bool.eq_false_iff.mpr c4
    subst c4
    have H1 : (none) = some r := by rw [if_neg (show ¬ (false = true) by decide)] at H; exact H
    clear H
    have H := H1
    clear H1
    exact absurd H (by simp)
end Go.Proofs.Ytmkakofnabfinaa.P
end
section
set_option linter.unusedVariables false
set_option linter.unusedSimpArgs false
namespace Go.Proofs.Ytmkakofnabfinaa.P
open Go.RowKit Go.Proofs.YtmkakofnabfinaaW.PrintWords Go.Proofs.YtmkakofnabfinaaW.PrintLast Go.Proofs.YtmkakofnabfinaaW.PrintMore
attribute [local go_sem] max2_int min2_int max_two min_two max_three min_three max_four min_four
set_option linter.unusedVariables false
set_option linter.unusedSimpArgs false
attribute [local go_sem high] eqA71 eqA74
mutual
def gouachelaw10_BloomSets.l0 : Nat → List Int → Int → Int → Int → Int → Int → Int → Int → Int → Int → Int → Option (Bool)
  | 0, _, _, _, _, _, _, _, _, _, _, _ => none
  | k + 1, x0, x13, x14, x103000, x103001, x103002, x103003, x104000, x104001, x104002, x104003 => if x14 < x13 then (if 0 ≤ x14 then (if x14 < (x0.length : Int) then ((bloom_Has.f 0 0 0 0 (rd x0 x14)).bind fun t105 => (if t105 = true then (some false) else ((bloom_Add.f x103000 x103001 x103002 x103003 (rd x0 x14)).bind fun bt107 => (if 0 ≤ (wrap64 ((wrap64 ((x0.length : Int) - 1)) - x14)) then (if (wrap64 ((wrap64 ((x0.length : Int) - 1)) - x14)) < (x0.length : Int) then ((bloom_Add.f x104000 x104001 x104002 x104003 (rd x0 (wrap64 ((wrap64 ((x0.length : Int) - 1)) - x14)))).bind fun bt112 => (gouachelaw10_BloomSets.l0 k x0 x13 (wrap64 (x14 + 1)) bt107.1 bt107.2.1 bt107.2.2.1 bt107.2.2.2 bt112.1 bt112.2.1 bt112.2.2.1 bt112.2.2.2)) else (none)) else (none))))) else (none)) else (none)) else (gouachelaw10_BloomSets.l1 k x0 (x0.length : Int) 0 x103000 x103001 x103002 x103003 x104000 x104001 x104002 x104003)
def gouachelaw10_BloomSets.l1 : Nat → List Int → Int → Int → Int → Int → Int → Int → Int → Int → Int → Int → Option (Bool)
  | 0, _, _, _, _, _, _, _, _, _, _, _ => none
  | k + 1, x40, x41, x42, x103000, x103001, x103002, x103003, x104000, x104001, x104002, x104003 => if x42 < x41 then (if 0 ≤ x42 then (if x42 < (x40.length : Int) then ((bloom_Has.f x103000 x103001 x103002 x103003 (rd x40 x42)).bind fun t118 => (if t118 = true then ((bloom_Add.f x103000 x103001 x103002 x103003 (rd x40 x42)).bind fun bt119 => (if (!(bt119.1 == x103000) || (!(bt119.2.1 == x103001) || (!(bt119.2.2.1 == x103002) || (!(bt119.2.2.2 == x103003))))) = true then (some false) else (gouachelaw10_BloomSets.l1 k x40 x41 (wrap64 (x42 + 1)) x103000 x103001 x103002 x103003 x104000 x104001 x104002 x104003))) else (some false))) else (none)) else (none)) else (if (x103000 == x104000 && (x103001 == x104001 && (x103002 == x104002 && (x103003 == x104003)))) = true then ((gouachelaw10_lives.f k).bind fun t116 => (some t116)) else (some false))
end
def gouachelaw10_BloomSets.f (k : Nat) (l0 : List Int) : Option (Bool) := if (l0.length : Int) > 500 then ((gouachelaw10_lives.f k).bind fun t101 => (some t101)) else (gouachelaw10_BloomSets.l0 k l0 (l0.length : Int) 0 0 0 0 0 0 0 0 0)
def gouachelaw10_BloomSets.T10 : Bool × List (List Nat × List Nat) := (true, [([], []), ([], []), ([], []), ([2], [2]), ([3], [3]), ([], []), ([4, 5], [4, 5]), ([1, 6], [1, 6]), ([7], [7]), ([0, 8], [0, 8]), ([9, 9, 0, 1, 2, 3, 4, 5, 6, 7, 8, 9], [9])])
def gouachelaw10_BloomSets.B10 : List Nat := [0, 0, 0, 4, 12, 0, 60, 126, 254, 511, 1023]
theorem gouachelaw10_BloomSets.tab10 : rtab .any (opsOf Try.f12 10) = gouachelaw10_BloomSets.T10 := by kernel_rfl
theorem gouachelaw10_BloomSets.bits10 : waitsOk gouachelaw10_BloomSets.T10.2 gouachelaw10_BloomSets.B10 = true := by kernel_rfl
def gouachelaw10_BloomSets.T15 : Bool × List (List Nat × List Nat) := (true, [([], []), ([], []), ([0, 1], [0, 1]), ([2], [2]), ([3, 2], [3]), ([4], [4]), ([4], [4]), ([5, 6, 4, 4], [4, 5, 6]), ([4], [4]), ([7, 8, 4], [4, 7, 8]), ([4, 9], [4, 9])])
def gouachelaw10_BloomSets.B15 : List Nat := [0, 0, 3, 7, 15, 31, 31, 127, 31, 511, 1023]
theorem gouachelaw10_BloomSets.tab15 : rtab .any (opsOf Try.f12 15) = gouachelaw10_BloomSets.T15 := by kernel_rfl
theorem gouachelaw10_BloomSets.bits15 : waitsOk gouachelaw10_BloomSets.T15.2 gouachelaw10_BloomSets.B15 = true := by kernel_rfl
set_option maxHeartbeats 8000000 in
set_option maxRecDepth 100000 in
theorem gouachelaw10_BloomSets.calls (k : Nat) (A0 : Option Addr) (c0 : Nat) (l0 : List Int) (r : Bool) (w : World) (hr0 : Kd.C (Kd.int .u32) w A0 l0.length l0) (hc0 : l0.length ≤ c0) (h : gouachelaw10_BloomSets.f k l0 = some r) :
    Calls Try.prog 12 #[.slice A0 l0.length c0] w fun e w' => e = .returned (.bool r) ∧ Below w.heap.size w w' := by
  have hu74 := Try.underlying74
  have HR0 := Aside0.mk hr0
  have HC0 := Aside0.mk hc0
  clear hr0 hc0
  have HB := Aside0.mk (Below.refl w.heap.size w)
  have H : (if (l0.length : Int) > 500 then ((gouachelaw10_lives.f k).bind fun t101 => (some t101)) else (gouachelaw10_BloomSets.l0 k l0 (l0.length : Int) 0 0 0 0 0 0 0 0 0)) = some r := h
  clear h
  by_cases c2 : (l0.length : Int) > 500
  · rw [if_pos c2] at H
    have c2b0 : decide (500 < (l0.length : Int)) = true := decide_eq_true c2
    have c2b1 : decide (500 < l0.length) = true := decide_eq_true (by omega)
    clear c2
    replace H := Option.bind_eq_some_iff.mp H
    obtain ⟨t101, A30, H⟩ := H
    replace H : (some t101) = some r := H
    have A3 := Aside0.mk A30
    clear A30
    obtain rfl := Option.some.inj H
    go_enter Try.func12, Try.ntmps12
    go_wp2_with (first | ((with_reducible refine gate_callee (f := 32) rfl ?_); refine goesL_ (some 11) rfl rfl Try.func32 (by kernel_rfl) rfl #[] rfl (by (try simp only [List.map_toArray, List.map_cons, List.map_nil]); first | done | rfl | (simp only [List.length_drop, List.length_take]; rfl)) ?_; (with_reducible refine (gouachelaw10_lives.calls k  t101 _ A3.out).mono ?_); rintro e w4 ⟨rfl, hb⟩; refine ⟨_, rfl, ?_⟩; have n0_ := Aside0.mk (below_step (by repeat (first | (with_reducible first | exact HB.out | apply below_alloc | apply pw_below_drewN | apply below_drew1) | exact HB.out)) hb); clear HB; have HB := n0_; clear n0_; (try clear hb); (try clear hb2); (try clear hk); (try clear hi)))
    go_ret
    exact ⟨by first | rfl | (simp [errW_none, errW_some] <;> rfl) | (simp [*, errW_none, errW_some] <;> rfl), by repeat (first | (with_reducible first | exact HB.out | apply below_alloc | apply pw_below_drewN | apply below_drew1) | exact HB.out)⟩
  · rw [if_neg c2] at H
    have c2b0 : decide (500 < (l0.length : Int)) = false := decide_eq_false c2
    have c2b1 : decide (500 < l0.length) = false := decide_eq_false (by omega)
    clear c2
    have H' := Aside0.mk H
    clear H
    go_enter Try.func12, Try.ntmps12
    go_wp2_with (first | ((with_reducible refine gate_dst (N := 3) rfl ?_); refine box_event ?hg (N := 3) ?hd (cs := #[.int .u64 0, .int .u64 0, .int .u64 0, .int .u64 0]) (t := 74) ?hr ?_; (case hd => rfl); (case hg => rfl); (case hr => first | (go_simp; done) | (go_simp; rfl)); intro gb102 hg w5 hbox hb; have n0_ := Aside0.mk (below_step (by repeat (first | (with_reducible first | exact HB.out | apply below_alloc | apply pw_below_drewN | apply below_drew1) | exact HB.out)) hb); have n1_ := Aside0.mk (hbox); have n2_ := Aside0.mk ((by rw [hg]; exact (below_size (by repeat (first | (with_reducible first | exact HB.out | apply below_alloc | apply pw_below_drewN | apply below_drew1) | exact HB.out))) : w.heap.size ≤ gb102)); have n3_ := Aside0.mk ((by rw [hg]; exact (below_size (by repeat (first | (with_reducible first | exact HB.out | apply below_alloc | apply pw_below_drewN | apply below_drew1) | exact HB.out))) : w.heap.size ≤ gb102)); clear HB; have HB := n0_; have BK102 := n1_; have GW102 := n2_; have GE102 := n3_; clear n0_ n1_ n2_ n3_; clear hb hbox hg) | ((with_reducible refine gate_dst (N := 4) rfl ?_); refine box_event ?hg (N := 4) ?hd (cs := #[.int .u64 0, .int .u64 0, .int .u64 0, .int .u64 0]) (t := 74) ?hr ?_; (case hd => rfl); (case hg => rfl); (case hr => first | (go_simp; done) | (go_simp; rfl)); intro gb103 hg w6 hbox hb; have n0_ := Aside0.mk (blk_below (g := gb102) (o := .cells #[.int .u64 0, .int .u64 0, .int .u64 0, .int .u64 0] 74 (0, 0)) (by (with_reducible repeat (first | refine blk_drewN ?_ _ | refine blk_drew ?_ | refine blk_alloc ?_ _)); exact BK102.out) hb); have n1_ := Aside0.mk (below_step (by repeat (first | (with_reducible first | exact HB.out | apply below_alloc | apply pw_below_drewN | apply below_drew1 | refine below_set ?_ GE102.out) | exact HB.out)) hb); have n2_ := Aside0.mk (hbox); have n3_ := Aside0.mk ((by rw [hg]; exact (below_size (by repeat (first | (with_reducible first | exact HB.out | apply below_alloc | apply pw_below_drewN | apply below_drew1 | refine below_set ?_ GE102.out) | exact HB.out))) : w.heap.size ≤ gb103)); have n4_ := Aside0.mk ((by rw [hg]; exact (below_size (by repeat (first | (with_reducible first | exact HB.out | apply below_alloc | apply pw_below_drewN | apply below_drew1 | refine below_set ?_ GE102.out) | exact HB.out))) : w.heap.size ≤ gb103)); have n5_ := Aside0.mk ((by rw [hg]; exact Nat.ne_of_lt (blk_lt (g := gb102) (o := .cells #[.int .u64 0, .int .u64 0, .int .u64 0, .int .u64 0] 74 (0, 0)) (by (with_reducible repeat (first | refine blk_drewN ?_ _ | refine blk_drew ?_ | refine blk_alloc ?_ _)); exact BK102.out)) : gb102 ≠ gb103)); have n6_ := Aside0.mk ((by rw [hg]; exact Nat.ne_of_gt (blk_lt (g := gb102) (o := .cells #[.int .u64 0, .int .u64 0, .int .u64 0, .int .u64 0] 74 (0, 0)) (by (with_reducible repeat (first | refine blk_drewN ?_ _ | refine blk_drew ?_ | refine blk_alloc ?_ _)); exact BK102.out)) : gb103 ≠ gb102)); clear BK102; clear HB; have BK102 := n0_; have HB := n1_; have BK103 := n2_; have GW103 := n3_; have GE103 := n4_; have NB102_103 := n5_; have NB103_102 := n6_; clear n0_ n1_ n2_ n3_ n4_ n5_ n6_; clear hb hbox hg))
    go_loopg [14] k (fun kq v14 w' => ∃ (x14_1 : Int) (x103000_1 : Int) (x103001_1 : Int) (x103002_1 : Int) (x103003_1 : Int) (x104000_1 : Int) (x104001_1 : Int) (x104002_1 : Int) (x104003_1 : Int), v14 = .int .i64 x14_1 ∧ Aside0 (gouachelaw10_BloomSets.l0 kq l0 (l0.length : Int) x14_1 x103000_1 x103001_1 x103002_1 x103003_1 x104000_1 x104001_1 x104002_1 x104003_1 = some r) ∧ Aside0 (kq ≤ k) ∧ Aside0 (w'.heap[gb102]? = some (.cells #[.int .u64 x103000_1, .int .u64 x103001_1, .int .u64 x103002_1, .int .u64 x103003_1] 74 (0, 0))) ∧ Aside0 (w'.heap[gb103]? = some (.cells #[.int .u64 x104000_1, .int .u64 x104001_1, .int .u64 x104002_1, .int .u64 x104003_1] 74 (0, 0))) ∧ Aside0 (Below w.heap.size w w'))
    case atStart => exact ⟨(0), (0), (0), (0), (0), (0), (0), (0), (0), (by first | rfl | (simp; done) | (simp [*]; done)), H', ⟨Nat.le_refl _⟩, ⟨by (with_reducible repeat (first | refine blk_drewN ?_ _ | refine blk_drew ?_ | refine blk_alloc ?_ _)); exact BK102.out⟩, ⟨by (with_reducible repeat (first | refine blk_drewN ?_ _ | refine blk_drew ?_ | refine blk_alloc ?_ _)); exact BK103.out⟩, ⟨by repeat (first | (with_reducible first | exact HB.out | apply below_alloc | apply pw_below_drewN | apply below_drew1 | refine below_set ?_ GE102.out | refine below_set ?_ GE103.out) | exact HB.out)⟩⟩
    case round =>
      clear H'
      try clear c1
      try clear c2
      try clear c2b0
      try clear c2b1
      try clear p2
      try clear c3
      obtain ⟨x14_1, x103000_1, x103001_1, x103002_1, x103003_1, x104000_1, x104001_1, x104002_1, x104003_1, rfl, HA, HK1, BK102, BK103, HB⟩ := hrel
      cases gk with
      | zero => exact absurd HA.out (by simp [gouachelaw10_BloomSets.l0])
      | succ k1 =>
        have H := HA.out
        clear HA
        simp only [gouachelaw10_BloomSets.l0] at H
        by_cases c7 : x14_1 < (l0.length : Int)
        · rw [if_pos c7] at H
          have c7b0 : decide (x14_1 < (l0.length : Int)) = true := decide_eq_true c7
          clear c7
          by_cases c8 : 0 ≤ x14_1
          · rw [if_pos c8] at H
            have c8b0 : decide (0 ≤ x14_1) = true := decide_eq_true c8
            clear c8
            by_cases c9 : x14_1 < (l0.length : Int)
            · rw [if_pos c9] at H
              have c9b0 : decide (x14_1 < (l0.length : Int)) = true := decide_eq_true c9
              clear c9
              replace H := Option.bind_eq_some_iff.mp H
              obtain ⟨t105, A100, H⟩ := H
              replace H : (if t105 = true then (some false) else ((bloom_Add.f x103000_1 x103001_1 x103002_1 x103003_1 (rd l0 x14_1)).bind fun bt107 => (if 0 ≤ (wrap64 ((wrap64 ((l0.length : Int) - 1)) - x14_1)) then (if (wrap64 ((wrap64 ((l0.length : Int) - 1)) - x14_1)) < (l0.length : Int) then ((bloom_Add.f x104000_1 x104001_1 x104002_1 x104003_1 (rd l0 (wrap64 ((wrap64 ((l0.length : Int) - 1)) - x14_1)))).bind fun bt112 => (gouachelaw10_BloomSets.l0 k1 l0 (l0.length : Int) (wrap64 (x14_1 + 1)) bt107.1 bt107.2.1 bt107.2.2.1 bt107.2.2.2 bt112.1 bt112.2.1 bt112.2.2.1 bt112.2.2.2)) else (none)) else (none)))) = some r := H
              have A10 := Aside0.mk A100
              clear A100
              by_cases c11 : t105 = true
              · subst c11
                have H1 : (some false) = some r := by rw [if_pos rfl] at H; exact H
                clear H
                have H := H1
                clear H1
                obtain rfl := Option.some.inj H
                have p104 : 0 ≤ (x14_1 : Int) := of_decide_eq_true (by first | (with_reducible assumption) | assumption)
                have q104 : x14_1 < (l0.length : Int) := of_decide_eq_true (by first | (with_reducible assumption) | assumption)
                obtain ⟨ad104, e104, hx104_0⟩ := Kd.at_int HR0.out x14_1 p104 q104
                cases e104
                replace hx104_0 := (HB.out.cell (World.block_lt_of_cell? w _ hx104_0)).trans hx104_0
                replace p104 := eq_true p104
                replace q104 := eq_true q104
                go_wp2_with (first | ((with_reducible refine gate_callee (f := 37) rfl ?_); refine goesL_ (some 22) rfl rfl Try.func37 (by kernel_rfl) rfl #[.agg #[.int .u64 0, .int .u64 0, .int .u64 0, .int .u64 0], .int .u32 (rd l0 x14_1)] rfl (by (try simp only [List.map_toArray, List.map_cons, List.map_nil]); first | done | rfl | (simp only [List.length_drop, List.length_take]; rfl)) ?_; (with_reducible refine (bloom_Has.calls 0 0 0 0 (rd l0 x14_1) true _ A10.out).mono ?_); rintro e w12 ⟨rfl, hb⟩; refine ⟨_, rfl, ?_⟩; have n0_ := Aside0.mk (blk_below (g := gb102) (o := .cells #[.int .u64 x103000_1, .int .u64 x103001_1, .int .u64 x103002_1, .int .u64 x103003_1] 74 (0, 0)) (by (with_reducible repeat (first | refine blk_drewN ?_ _ | refine blk_drew ?_ | refine blk_alloc ?_ _)); exact BK102.out) hb); have n1_ := Aside0.mk (blk_below (g := gb103) (o := .cells #[.int .u64 x104000_1, .int .u64 x104001_1, .int .u64 x104002_1, .int .u64 x104003_1] 74 (0, 0)) (by (with_reducible repeat (first | refine blk_drewN ?_ _ | refine blk_drew ?_ | refine blk_alloc ?_ _)); exact BK103.out) hb); have n2_ := Aside0.mk (below_step (by repeat (first | (with_reducible first | exact HB.out | apply below_alloc | apply pw_below_drewN | apply below_drew1 | refine below_set ?_ GE102.out | refine below_set ?_ GE103.out) | exact HB.out)) hb); clear BK102; clear BK103; clear HB; have BK102 := n0_; have BK103 := n1_; have HB := n2_; clear n0_ n1_ n2_; (try clear hb); (try clear hb2); (try clear hk); (try clear hi)))
                go_ret
                exact ⟨by first | rfl | (simp [errW_none, errW_some] <;> rfl) | (simp [*, errW_none, errW_some] <;> rfl), by repeat (first | (with_reducible first | exact HB.out | apply below_alloc | apply pw_below_drewN | apply below_drew1 | refine below_set ?_ GE102.out | refine below_set ?_ GE103.out) | exact HB.out)⟩
              · replace c11 := Bool.eq_false_iff.mpr c11
                subst c11
                have H1 : ((bloom_Add.f x103000_1 x103001_1 x103002_1 x103003_1 (rd l0 x14_1)).bind fun bt107 => (if 0 ≤ (wrap64 ((wrap64 ((l0.length : Int) - 1)) - x14_1)) then (if (wrap64 ((wrap64 ((l0.length : Int) - 1)) - x14_1)) < (l0.length : Int) then ((bloom_Add.f x104000_1 x104001_1 x104002_1 x104003_1 (rd l0 (wrap64 ((wrap64 ((l0.length : Int) - 1)) - x14_1)))).bind fun bt112 => (gouachelaw10_BloomSets.l0 k1 l0 (l0.length : Int) (wrap64 (x14_1 + 1)) bt107.1 bt107.2.1 bt107.2.2.1 bt107.2.2.2 bt112.1 bt112.2.1 bt112.2.2.1 bt112.2.2.2)) else (none)) else (none))) = some r := by rw [if_neg (show ¬ (false = true) by decide)] at H; exact H
                clear H
                have H := H1
                clear H1
                replace H := Option.bind_eq_some_iff.mp H
                obtain ⟨⟨t107, t108, t109, t110⟩, A130, H⟩ := H
                replace H : (if 0 ≤ (wrap64 ((wrap64 ((l0.length : Int) - 1)) - x14_1)) then (if (wrap64 ((wrap64 ((l0.length : Int) - 1)) - x14_1)) < (l0.length : Int) then ((bloom_Add.f x104000_1 x104001_1 x104002_1 x104003_1 (rd l0 (wrap64 ((wrap64 ((l0.length : Int) - 1)) - x14_1)))).bind fun bt112 => (gouachelaw10_BloomSets.l0 k1 l0 (l0.length : Int) (wrap64 (x14_1 + 1)) t107 t108 t109 t110 bt112.1 bt112.2.1 bt112.2.2.1 bt112.2.2.2)) else (none)) else (none)) = some r := H
                have A13 := Aside0.mk A130
                clear A130
                obtain ⟨ji14, hji14⟩ : ∃ j_ : Int, (wrap64 ((wrap64 ((l0.length : Int) - 1)) - x14_1)) = j_ := ⟨_, rfl⟩
                replace H : (if 0 ≤ (ji14) then (if (ji14) < (l0.length : Int) then ((bloom_Add.f x104000_1 x104001_1 x104002_1 x104003_1 (rd l0 (ji14))).bind fun bt112 => (gouachelaw10_BloomSets.l0 k1 l0 (l0.length : Int) (wrap64 (x14_1 + 1)) t107 t108 t109 t110 bt112.1 bt112.2.1 bt112.2.2.1 bt112.2.2.2)) else (none)) else (none)) = some r := by first | (rw [hji14] at H; exact H) | (simp only [hji14] at H ⊢; exact H)
                (try rw [hji14] at A10)
                (try rw [hji14] at A13)
                have hji14w : (IntKind.i64.wrap ((wrap64 ((l0.length : Int) - 1)) - x14_1)) = ji14 := (i64_w _).trans hji14
                by_cases c15 : 0 ≤ (ji14)
                · rw [if_pos c15] at H
                  have c15b0 : decide (0 ≤ (ji14)) = true := decide_eq_true c15
                  clear c15
                  by_cases c16 : (ji14) < (l0.length : Int)
                  · rw [if_pos c16] at H
                    have c16b0 : decide ((ji14) < (l0.length : Int)) = true := decide_eq_true c16
                    clear c16
                    replace H := Option.bind_eq_some_iff.mp H
                    obtain ⟨⟨t112, t113, t114, t115⟩, A170, H⟩ := H
                    replace H : (gouachelaw10_BloomSets.l0 k1 l0 (l0.length : Int) (wrap64 (x14_1 + 1)) t107 t108 t109 t110 t112 t113 t114 t115) = some r := H
                    have A17 := Aside0.mk A170
                    clear A170
                    have H' := Aside0.mk H
                    clear H
                    have p104 : 0 ≤ (x14_1 : Int) := of_decide_eq_true (by first | (with_reducible assumption) | assumption)
                    have q104 : x14_1 < (l0.length : Int) := of_decide_eq_true (by first | (with_reducible assumption) | assumption)
                    obtain ⟨ad104, e104, hx104_0⟩ := Kd.at_int HR0.out x14_1 p104 q104
                    cases e104
                    replace hx104_0 := (HB.out.cell (World.block_lt_of_cell? w _ hx104_0)).trans hx104_0
                    replace p104 := eq_true p104
                    replace q104 := eq_true q104
                    try go_wp2_with (first | ((with_reducible refine gate_callee (f := 37) rfl ?_); refine goesL_ (some 22) rfl rfl Try.func37 (by kernel_rfl) rfl #[.agg #[.int .u64 0, .int .u64 0, .int .u64 0, .int .u64 0], .int .u32 (rd l0 x14_1)] rfl (by (try simp only [List.map_toArray, List.map_cons, List.map_nil]); first | done | rfl | (simp only [List.length_drop, List.length_take]; rfl)) ?_; (with_reducible refine (bloom_Has.calls 0 0 0 0 (rd l0 x14_1) false _ A10.out).mono ?_); rintro e w18 ⟨rfl, hb⟩; refine ⟨_, rfl, ?_⟩; have n0_ := Aside0.mk (blk_below (g := gb102) (o := .cells #[.int .u64 x103000_1, .int .u64 x103001_1, .int .u64 x103002_1, .int .u64 x103003_1] 74 (0, 0)) (by (with_reducible repeat (first | refine blk_drewN ?_ _ | refine blk_drew ?_ | refine blk_alloc ?_ _)); exact BK102.out) hb); have n1_ := Aside0.mk (blk_below (g := gb103) (o := .cells #[.int .u64 x104000_1, .int .u64 x104001_1, .int .u64 x104002_1, .int .u64 x104003_1] 74 (0, 0)) (by (with_reducible repeat (first | refine blk_drewN ?_ _ | refine blk_drew ?_ | refine blk_alloc ?_ _)); exact BK103.out) hb); have n2_ := Aside0.mk (below_step (by repeat (first | (with_reducible first | exact HB.out | apply below_alloc | apply pw_below_drewN | apply below_drew1 | refine below_set ?_ GE102.out | refine below_set ?_ GE103.out) | exact HB.out)) hb); clear BK102; clear BK103; clear HB; have BK102 := n0_; have BK103 := n1_; have HB := n2_; clear n0_ n1_ n2_; (try clear hb); (try clear hb2); (try clear hk); (try clear hi)))
                    have n0_ := Aside0.mk (blk_drew BK102.out)
                    have n1_ := Aside0.mk (blk_drew BK103.out)
                    have n2_ := Aside0.mk (below_drew1 HB.out)
                    clear BK102
                    clear BK103
                    clear HB
                    have BK102 := n0_
                    have BK103 := n1_
                    have HB := n2_
                    clear n0_ n1_ n2_
                    have p106 : 0 ≤ (x14_1 : Int) := of_decide_eq_true (by first | (with_reducible assumption) | assumption)
                    have q106 : x14_1 < (l0.length : Int) := of_decide_eq_true (by first | (with_reducible assumption) | assumption)
                    obtain ⟨ad106, e106, hx106_0⟩ := Kd.at_int HR0.out x14_1 p106 q106
                    have hw106_0 := hx106_0
                    obtain rfl : ad104 = ad106 := (by injection e106)
                    replace hx106_0 := (HB.out.cell (World.block_lt_of_cell? w _ hx106_0)).trans hx106_0
                    replace p106 := eq_true p106
                    replace q106 := eq_true q106
                    refine start_ (n := 7) (S := fun w' => w'.cell? ⟨gb102, 0, none⟩ = some (.int .u64 x103000_1) ∧ w'.cell? ⟨gb102, 1, none⟩ = some (.int .u64 x103001_1) ∧ w'.cell? ⟨gb102, 2, none⟩ = some (.int .u64 x103002_1) ∧ w'.cell? ⟨gb102, 3, none⟩ = some (.int .u64 x103003_1) ∧ w'.cell? (ad104.add (x14_1).toNat) = some (.int .u32 (rd l0 x14_1))) (ds := [6]) #[false, false, false, false, false, false, false] (by kernel_rfl) rfl rfl ⟨(blk_cell BK102.out 0).trans rfl, (blk_cell BK102.out 1).trans rfl, (blk_cell BK102.out 2).trans rfl, (blk_cell BK102.out 3).trans rfl, ((HB.out.cell (World.block_lt_of_cell? w _ hw106_0)).trans hw106_0)⟩ (fun hHeld => ?_)
                    generalize w18.drew = w19 at BK102 BK103 HB hx106_0 hHeld ⊢
                    refine pure_ (i := 1) (N := some 24) (v := ?_) (a' := ?_) #[false, true, false, false, false, false, false] rfl rfl (by kernel_rfl) (fun _ _ _ h => h) (Or.inl ⟨by rfl, ?_⟩) ?_ ?_
                    rotate_left
                    · intro w'
                      go_simp
                      with_reducible rfl
                    rotate_left
                    · simp only [Act.put, List.setIfInBounds_toArray, List.set_cons_zero, List.set_cons_succ, i64_w, i32_w]
                      rfl
                    refine pure_ (i := 2) (N := some 25) (v := ?_) (a' := ?_) #[false, true, true, false, false, false, false] rfl rfl (by kernel_rfl) (fun _ _ _ h => h) (Or.inl ⟨by rfl, ?_⟩) ?_ ?_
                    rotate_left
                    · intro w'
                      go_simp
                      with_reducible rfl
                    rotate_left
                    · simp only [Act.put, List.setIfInBounds_toArray, List.set_cons_zero, List.set_cons_succ, i64_w, i32_w]
                      rfl
                    refine pure_ (i := 3) (N := some 26) (v := ?_) (a' := ?_) #[false, true, true, true, false, false, false] rfl rfl (by kernel_rfl) (fun _ _ _ h => h) (Or.inl ⟨by rfl, ?_⟩) ?_ ?_
                    rotate_left
                    · intro w'
                      go_simp
                      with_reducible rfl
                    rotate_left
                    · simp only [Act.put, List.setIfInBounds_toArray, List.set_cons_zero, List.set_cons_succ, i64_w, i32_w]
                      rfl
                    refine take_ (i := 0) (N := some 23) (v := ?_) (a' := ?_) #[true, true, true, true, false, false, false] rfl rfl (by kernel_rfl) (fun _ _ _ h => h) (Or.inl ⟨by rfl, ?_⟩) hHeld ?_ ?_
                    rotate_left
                    · rintro w' ⟨s0, s1, s2, s3, s4⟩
                      go_simp
                      with_reducible rfl
                    rotate_left
                    · simp only [Act.put, List.setIfInBounds_toArray, List.set_cons_zero, List.set_cons_succ, i64_w, i32_w]
                      rfl
                    refine take_ (i := 4) (N := some 27) (v := ?_) (a' := ?_) #[true, true, true, true, true, false, false] rfl rfl (by kernel_rfl) (fun _ _ _ h => h) (Or.inl ⟨by rfl, ?_⟩) hHeld ?_ ?_
                    rotate_left
                    · rintro w' ⟨s0, s1, s2, s3, s4⟩
                      go_simp
                      with_reducible rfl
                    rotate_left
                    · simp only [Act.put, List.setIfInBounds_toArray, List.set_cons_zero, List.set_cons_succ, i64_w, i32_w]
                      rfl
                    refine one_ (i := 5) (N := some 28) #[true, true, true, true, true, true, false] rfl rfl (by kernel_rfl) (by decide) (fun K hK => ?_)
                    refine goes_ Try.func34 (by kernel_rfl) rfl #[.agg #[.int .u64 x103000_1, .int .u64 x103001_1, .int .u64 x103002_1, .int .u64 x103003_1], .int .u32 (rd l0 x14_1)] (by rfl) rfl rfl (by (try simp only [List.map_toArray, List.map_cons, List.map_nil]); first | done | rfl | (simp only [List.length_drop, List.length_take]; rfl)) ?_
                    with_reducible refine (bloom_Add.calls x103000_1 x103001_1 x103002_1 x103003_1 (rd l0 x14_1) t107 t108 t109 t110 _ A13.out).mono ?_
                    rintro e w20 ⟨rfl, hb⟩
                    refine ⟨_, rfl, ?_⟩
                    have n0_ := Aside0.mk (blk_below (g := gb102) (o := .cells #[.int .u64 x103000_1, .int .u64 x103001_1, .int .u64 x103002_1, .int .u64 x103003_1] 74 (0, 0)) (by (with_reducible repeat (first | refine blk_drewN ?_ _ | refine blk_drew ?_ | refine blk_alloc ?_ _)); exact BK102.out) hb)
                    have n1_ := Aside0.mk (blk_below (g := gb103) (o := .cells #[.int .u64 x104000_1, .int .u64 x104001_1, .int .u64 x104002_1, .int .u64 x104003_1] 74 (0, 0)) (by (with_reducible repeat (first | refine blk_drewN ?_ _ | refine blk_drew ?_ | refine blk_alloc ?_ _)); exact BK103.out) hb)
                    have n2_ := Aside0.mk (below_step (by repeat (first | (with_reducible first | exact HB.out | apply below_alloc | apply pw_below_drewN | apply below_drew1 | refine below_set ?_ GE102.out | refine below_set ?_ GE103.out) | exact HB.out)) hb)
                    clear BK102
                    clear BK103
                    clear HB
                    have BK102 := n0_
                    have BK103 := n1_
                    have HB := n2_
                    clear n0_ n1_ n2_
                    (try clear hb)
                    (try clear hb2)
                    (try clear hk)
                    (try clear hi)
                    refine hK.out _ _ ⟨(blk_cell BK102.out 0).trans rfl, (blk_cell BK102.out 1).trans rfl, (blk_cell BK102.out 2).trans rfl, (blk_cell BK102.out 3).trans rfl, ((HB.out.cell (World.block_lt_of_cell? w _ hw106_0)).trans hw106_0)⟩ (fun hHeld => ?_)
                    clear hK K
                    refine norm_ (a' := ?_) ?_ ?_
                    rotate_left
                    · show Act.put _ (some 28) _ = _
                      simp only [Act.put, List.setIfInBounds_toArray, List.set_cons_zero, List.set_cons_succ, i64_w, i32_w]
                      rfl
                    refine last_ (i := 6) (N := none) #[true, true, true, true, true, true, true] rfl rfl (by kernel_rfl) (by decide) (fun K hK => ?_)
                    have hs21 : w20.cell? ⟨gb102, 0, none⟩ = some (.int .u64 x103000_1) := (blk_cell BK102.out 0).trans rfl
                    have hfs21 := blk_frozen BK102.out 0
                    have hns21_1 := NB103_102.out
                    have hms21_1 := NB102_103.out
                    have hs22 : w20.cell? ⟨gb102, 1, none⟩ = some (.int .u64 x103001_1) := (blk_cell BK102.out 1).trans rfl
                    have hfs22 := blk_frozen BK102.out 1
                    have hns22_1 := NB103_102.out
                    have hms22_1 := NB102_103.out
                    have hs23 : w20.cell? ⟨gb102, 2, none⟩ = some (.int .u64 x103002_1) := (blk_cell BK102.out 2).trans rfl
                    have hfs23 := blk_frozen BK102.out 2
                    have hns23_1 := NB103_102.out
                    have hms23_1 := NB102_103.out
                    have hs24 : w20.cell? ⟨gb102, 3, none⟩ = some (.int .u64 x103003_1) := (blk_cell BK102.out 3).trans rfl
                    have hfs24 := blk_frozen BK102.out 3
                    have hns24_1 := NB103_102.out
                    have hms24_1 := NB102_103.out
                    refine skip_ (w1 := ?_) (by rfl) rfl ?_ ?_
                    rotate_left
                    · go_simp
                      rfl
                    refine hK.out _ _ ?_
                    clear hK K
                    refine done_ (by kernel_rfl) ?_
                    try go_wp2
                    have n0_ : Aside0 (((((w20.setCell ⟨gb102, 0, none⟩ (.int .u64 t107)).setCell ⟨gb102, 1, none⟩ (.int .u64 t108)).setCell ⟨gb102, 2, none⟩ (.int .u64 t109)).setCell ⟨gb102, 3, none⟩ (.int .u64 t110)).heap[gb102]? = some (.cells #[.int .u64 t107, .int .u64 t108, .int .u64 t109, .int .u64 t110] 74 (0, 0))) := ⟨by (with_reducible repeat (first | refine blk_drewN ?_ _ | refine blk_drew ?_ | refine blk_alloc ?_ _)); refine blk_put (cs := #[.int .u64 t107, .int .u64 t108, .int .u64 t109, .int .u64 x103003_1]) ?_ 3 _ rfl; (with_reducible repeat (first | refine blk_drewN ?_ _ | refine blk_drew ?_ | refine blk_alloc ?_ _)); refine blk_put (cs := #[.int .u64 t107, .int .u64 t108, .int .u64 x103002_1, .int .u64 x103003_1]) ?_ 2 _ rfl; (with_reducible repeat (first | refine blk_drewN ?_ _ | refine blk_drew ?_ | refine blk_alloc ?_ _)); refine blk_put (cs := #[.int .u64 t107, .int .u64 x103001_1, .int .u64 x103002_1, .int .u64 x103003_1]) ?_ 1 _ rfl; (with_reducible repeat (first | refine blk_drewN ?_ _ | refine blk_drew ?_ | refine blk_alloc ?_ _)); refine blk_put (cs := #[.int .u64 x103000_1, .int .u64 x103001_1, .int .u64 x103002_1, .int .u64 x103003_1]) ?_ 0 _ rfl; (with_reducible repeat (first | refine blk_drewN ?_ _ | refine blk_drew ?_ | refine blk_alloc ?_ _)); exact BK102.out⟩
                    have n1_ : Aside0 (((((w20.setCell ⟨gb102, 0, none⟩ (.int .u64 t107)).setCell ⟨gb102, 1, none⟩ (.int .u64 t108)).setCell ⟨gb102, 2, none⟩ (.int .u64 t109)).setCell ⟨gb102, 3, none⟩ (.int .u64 t110)).heap[gb103]? = some (.cells #[.int .u64 x104000_1, .int .u64 x104001_1, .int .u64 x104002_1, .int .u64 x104003_1] 74 (0, 0))) := ⟨by (with_reducible repeat (first | refine blk_drewN ?_ _ | refine blk_drew ?_ | refine blk_alloc ?_ _)); refine blk_far ?_ NB103_102.out _; (with_reducible repeat (first | refine blk_drewN ?_ _ | refine blk_drew ?_ | refine blk_alloc ?_ _)); refine blk_far ?_ NB103_102.out _; (with_reducible repeat (first | refine blk_drewN ?_ _ | refine blk_drew ?_ | refine blk_alloc ?_ _)); refine blk_far ?_ NB103_102.out _; (with_reducible repeat (first | refine blk_drewN ?_ _ | refine blk_drew ?_ | refine blk_alloc ?_ _)); refine blk_far ?_ NB103_102.out _; (with_reducible repeat (first | refine blk_drewN ?_ _ | refine blk_drew ?_ | refine blk_alloc ?_ _)); exact BK103.out⟩
                    have n2_ : Aside0 (Below w.heap.size w ((((w20.setCell ⟨gb102, 0, none⟩ (.int .u64 t107)).setCell ⟨gb102, 1, none⟩ (.int .u64 t108)).setCell ⟨gb102, 2, none⟩ (.int .u64 t109)).setCell ⟨gb102, 3, none⟩ (.int .u64 t110))) := ⟨by repeat (first | (with_reducible first | exact HB.out | apply below_alloc | apply pw_below_drewN | apply below_drew1 | refine below_set ?_ GE102.out | refine below_set ?_ GE103.out) | exact HB.out)⟩
                    (try clear BK102)
                    (try clear BK103)
                    (try clear HB)
                    generalize ((((w20.setCell ⟨gb102, 0, none⟩ (.int .u64 t107)).setCell ⟨gb102, 1, none⟩ (.int .u64 t108)).setCell ⟨gb102, 2, none⟩ (.int .u64 t109)).setCell ⟨gb102, 3, none⟩ (.int .u64 t110)) = w25 at n0_ n1_ n2_ ⊢
                    have BK102 := n0_
                    have BK103 := n1_
                    have HB := n2_
                    clear n0_ n1_ n2_
                    have n0_ := Aside0.mk (blk_drew BK102.out)
                    have n1_ := Aside0.mk (blk_drew BK103.out)
                    have n2_ := Aside0.mk (below_drew1 HB.out)
                    clear BK102
                    clear BK103
                    clear HB
                    have BK102 := n0_
                    have BK103 := n1_
                    have HB := n2_
                    clear n0_ n1_ n2_
                    have p111 : 0 ≤ ((ji14) : Int) := of_decide_eq_true (by first | (with_reducible assumption) | assumption)
                    have q111 : (ji14) < (l0.length : Int) := of_decide_eq_true (by first | (with_reducible assumption) | assumption)
                    obtain ⟨ad111, e111, hx111_0⟩ := Kd.at_int HR0.out (ji14) p111 q111
                    have hw111_0 := hx111_0
                    obtain rfl : ad104 = ad111 := (by injection e111)
                    replace hx111_0 := (HB.out.cell (World.block_lt_of_cell? w _ hx111_0)).trans hx111_0
                    replace p111 := eq_true p111
                    replace q111 := eq_true q111
                    refine start_ (n := 11) (S := fun w' => w'.cell? ⟨gb103, 0, none⟩ = some (.int .u64 x104000_1) ∧ w'.cell? ⟨gb103, 1, none⟩ = some (.int .u64 x104001_1) ∧ w'.cell? ⟨gb103, 2, none⟩ = some (.int .u64 x104002_1) ∧ w'.cell? ⟨gb103, 3, none⟩ = some (.int .u64 x104003_1) ∧ w'.cell? (ad104.add ((ji14)).toNat) = some (.int .u32 (rd l0 (ji14)))) (ds := [10]) #[false, false, false, false, false, false, false, false, false, false, false] (by kernel_rfl) rfl rfl ⟨(blk_cell BK103.out 0).trans rfl, (blk_cell BK103.out 1).trans rfl, (blk_cell BK103.out 2).trans rfl, (blk_cell BK103.out 3).trans rfl, ((HB.out.cell (World.block_lt_of_cell? w _ hw111_0)).trans hw111_0)⟩ (fun hHeld => ?_); refine with_tabW gouachelaw10_BloomSets.tab10 gouachelaw10_BloomSets.bits10 (fun HT_ HW_ => ?_)
                    generalize w25.drew = w26 at BK102 BK103 HB hx111_0 hHeld ⊢
                    refine pure_ (i := 1) (N := some 30) (v := ?_) (a' := ?_) #[false, true, false, false, false, false, false, false, false, false, false] rfl rfl (any_of HT_.out (by kernel_rfl)) (fun _ _ _ h => h) (Or.inl ⟨by rfl, ?_⟩) ?_ ?_
                    rotate_left
                    · intro w'
                      go_simp
                      with_reducible rfl
                    rotate_left
                    · simp only [Act.put, List.setIfInBounds_toArray, List.set_cons_zero, List.set_cons_succ, i64_w, i32_w]
                      rfl
                    refine pure_ (i := 2) (N := some 31) (v := ?_) (a' := ?_) #[false, true, true, false, false, false, false, false, false, false, false] rfl rfl (any_of HT_.out (by kernel_rfl)) (fun _ _ _ h => h) (Or.inl ⟨by rfl, ?_⟩) ?_ ?_
                    rotate_left
                    · intro w'
                      go_simp
                      with_reducible rfl
                    rotate_left
                    · simp only [Act.put, List.setIfInBounds_toArray, List.set_cons_zero, List.set_cons_succ, i64_w, i32_w]
                      rfl
                    refine pure_ (i := 3) (N := some 32) (v := ?_) (a' := ?_) #[false, true, true, true, false, false, false, false, false, false, false] rfl rfl (any_of HT_.out (by kernel_rfl)) (fun _ _ _ h => h) (Or.inl ⟨by rfl, ?_⟩) ?_ ?_
                    rotate_left
                    · intro w'
                      go_simp
                      with_reducible rfl
                    rotate_left
                    · simp only [Act.put, List.setIfInBounds_toArray, List.set_cons_zero, List.set_cons_succ, i64_w, i32_w]
                      rfl
                    refine pure_ (i := 4) (N := some 33) (v := ?_) (a' := ?_) #[false, true, true, true, true, false, false, false, false, false, false] rfl rfl (any_of HT_.out (by kernel_rfl)) (fun _ _ _ h => h) (Or.inl ⟨by rfl, ?_⟩) ?_ ?_
                    rotate_left
                    · intro w'
                      go_simp
                      with_reducible rfl
                    rotate_left
                    · simp only [Act.put, List.setIfInBounds_toArray, List.set_cons_zero, List.set_cons_succ, i64_w, i32_w]
                      rfl
                    refine pure_ (i := 5) (N := some 34) (v := ?_) (a' := ?_) #[false, true, true, true, true, true, false, false, false, false, false] rfl rfl (any_of HT_.out (by kernel_rfl)) (fun _ _ _ h => h) (Or.inl ⟨by rfl, ?_⟩) ?_ ?_
                    rotate_left
                    · intro w'
                      go_simp
                      with_reducible rfl
                    rotate_left
                    · simp only [Act.put, List.setIfInBounds_toArray, List.set_cons_zero, List.set_cons_succ, i64_w, i32_w]
                      rfl
                    refine pure_ (i := 6) (N := some 35) (v := ?_) (a' := ?_) #[false, true, true, true, true, true, true, false, false, false, false] rfl rfl (any_of HT_.out (by kernel_rfl)) (fun _ _ _ h => h) (Or.inl ⟨by rfl, ?_⟩) ?_ ?_
                    rotate_left
                    · intro w'
                      go_simp
                      with_reducible rfl
                    rotate_left
                    · simp only [Act.put, List.setIfInBounds_toArray, List.set_cons_zero, List.set_cons_succ, i64_w, i32_w]
                      rfl
                    refine pure_ (i := 7) (N := some 36) (v := ?_) (a' := ?_) #[false, true, true, true, true, true, true, true, false, false, false] rfl rfl (any_of HT_.out (by kernel_rfl)) (fun _ _ _ h => h) (Or.inl ⟨by rfl, ?_⟩) ?_ ?_
                    rotate_left
                    · intro w'
                      go_simp
                      with_reducible rfl
                    rotate_left
                    · simp only [Act.put, List.setIfInBounds_toArray, List.set_cons_zero, List.set_cons_succ, i64_w, i32_w]
                      rfl
                    refine take_ (i := 0) (N := some 29) (v := ?_) (a' := ?_) #[true, true, true, true, true, true, true, true, false, false, false] rfl rfl (take_ofW HT_.out HW_.out (by kernel_rfl)) (fun _ _ _ h => h) (Or.inl ⟨by rfl, ?_⟩) hHeld ?_ ?_
                    rotate_left
                    · rintro w' ⟨s0, s1, s2, s3, s4⟩
                      go_simp
                      with_reducible rfl
                    rotate_left
                    · simp only [Act.put, List.setIfInBounds_toArray, List.set_cons_zero, List.set_cons_succ, i64_w, i32_w]
                      rfl
                    refine take_ (i := 8) (N := some 37) (v := ?_) (a' := ?_) #[true, true, true, true, true, true, true, true, true, false, false] rfl rfl (take_ofW HT_.out HW_.out (by kernel_rfl)) (fun _ _ _ h => h) (Or.inl ⟨by rfl, ?_⟩) hHeld ?_ ?_
                    rotate_left
                    · rintro w' ⟨s0, s1, s2, s3, s4⟩
                      go_simp
                      with_reducible rfl
                    rotate_left
                    · simp only [Act.put, List.setIfInBounds_toArray, List.set_cons_zero, List.set_cons_succ, i64_w, i32_w]
                      rfl
                    refine one_ (i := 9) (N := some 38) #[true, true, true, true, true, true, true, true, true, true, false] rfl rfl (one_of HT_.out (by kernel_rfl)) (by decide) (fun K hK => ?_)
                    refine goes_ Try.func34 (by kernel_rfl) rfl #[.agg #[.int .u64 x104000_1, .int .u64 x104001_1, .int .u64 x104002_1, .int .u64 x104003_1], .int .u32 (rd l0 (ji14))] (by rfl) rfl rfl (by (try simp only [List.map_toArray, List.map_cons, List.map_nil]); first | done | (simp only [hji14]; rfl) | rfl | (simp only [List.length_drop, List.length_take]; rfl)) ?_
                    with_reducible refine (bloom_Add.calls x104000_1 x104001_1 x104002_1 x104003_1 (rd l0 (ji14)) t112 t113 t114 t115 _ A17.out).mono ?_
                    rintro e w27 ⟨rfl, hb⟩
                    refine ⟨_, rfl, ?_⟩
                    have n0_ := Aside0.mk (blk_below (g := gb102) (o := .cells #[.int .u64 t107, .int .u64 t108, .int .u64 t109, .int .u64 t110] 74 (0, 0)) (by (with_reducible repeat (first | refine blk_drewN ?_ _ | refine blk_drew ?_ | refine blk_alloc ?_ _)); exact BK102.out) hb)
                    have n1_ := Aside0.mk (blk_below (g := gb103) (o := .cells #[.int .u64 x104000_1, .int .u64 x104001_1, .int .u64 x104002_1, .int .u64 x104003_1] 74 (0, 0)) (by (with_reducible repeat (first | refine blk_drewN ?_ _ | refine blk_drew ?_ | refine blk_alloc ?_ _)); exact BK103.out) hb)
                    have n2_ := Aside0.mk (below_step (by repeat (first | (with_reducible first | exact HB.out | apply below_alloc | apply pw_below_drewN | apply below_drew1 | refine below_set ?_ GE102.out | refine below_set ?_ GE103.out) | exact HB.out)) hb)
                    clear BK102
                    clear BK103
                    clear HB
                    have BK102 := n0_
                    have BK103 := n1_
                    have HB := n2_
                    clear n0_ n1_ n2_
                    (try clear hb)
                    (try clear hb2)
                    (try clear hk)
                    (try clear hi)
                    refine hK.out _ _ ⟨(blk_cell BK103.out 0).trans rfl, (blk_cell BK103.out 1).trans rfl, (blk_cell BK103.out 2).trans rfl, (blk_cell BK103.out 3).trans rfl, ((HB.out.cell (World.block_lt_of_cell? w _ hw111_0)).trans hw111_0)⟩ (fun hHeld => ?_)
                    clear hK K
                    refine norm_ (a' := ?_) ?_ ?_
                    rotate_left
                    · show Act.put _ (some 38) _ = _
                      simp only [Act.put, List.setIfInBounds_toArray, List.set_cons_zero, List.set_cons_succ, i64_w, i32_w]
                      rfl
                    refine last_ (i := 10) (N := none) #[true, true, true, true, true, true, true, true, true, true, true] rfl rfl (one_of HT_.out (by kernel_rfl)) (by decide) (fun K hK => ?_)
                    have hs28 : w27.cell? ⟨gb103, 0, none⟩ = some (.int .u64 x104000_1) := (blk_cell BK103.out 0).trans rfl
                    have hfs28 := blk_frozen BK103.out 0
                    have hns28_0 := NB102_103.out
                    have hms28_0 := NB103_102.out
                    have hs29 : w27.cell? ⟨gb103, 1, none⟩ = some (.int .u64 x104001_1) := (blk_cell BK103.out 1).trans rfl
                    have hfs29 := blk_frozen BK103.out 1
                    have hns29_0 := NB102_103.out
                    have hms29_0 := NB103_102.out
                    have hs30 : w27.cell? ⟨gb103, 2, none⟩ = some (.int .u64 x104002_1) := (blk_cell BK103.out 2).trans rfl
                    have hfs30 := blk_frozen BK103.out 2
                    have hns30_0 := NB102_103.out
                    have hms30_0 := NB103_102.out
                    have hs31 : w27.cell? ⟨gb103, 3, none⟩ = some (.int .u64 x104003_1) := (blk_cell BK103.out 3).trans rfl
                    have hfs31 := blk_frozen BK103.out 3
                    have hns31_0 := NB102_103.out
                    have hms31_0 := NB103_102.out
                    refine skip_ (w1 := ?_) (by rfl) rfl ?_ ?_
                    rotate_left
                    · go_simp
                      rfl
                    refine hK.out _ _ ?_
                    clear hK K
                    refine done_ (done_of HT_.out (by kernel_rfl)) ?_
                    try go_wp2
                    go_roundg k1
                    case measure => have := HK1.out; omega
                    case rel => exact ⟨(wrap64 (x14_1 + 1)), (t107), (t108), (t109), (t110), (t112), (t113), (t114), (t115), (by first | rfl | (simp; done) | (simp [*]; done)), H', ⟨by have := HK1.out; omega⟩, ⟨by (with_reducible repeat (first | refine blk_drewN ?_ _ | refine blk_drew ?_ | refine blk_alloc ?_ _)); refine blk_far ?_ NB102_103.out _; (with_reducible repeat (first | refine blk_drewN ?_ _ | refine blk_drew ?_ | refine blk_alloc ?_ _)); refine blk_far ?_ NB102_103.out _; (with_reducible repeat (first | refine blk_drewN ?_ _ | refine blk_drew ?_ | refine blk_alloc ?_ _)); refine blk_far ?_ NB102_103.out _; (with_reducible repeat (first | refine blk_drewN ?_ _ | refine blk_drew ?_ | refine blk_alloc ?_ _)); refine blk_far ?_ NB102_103.out _; (with_reducible repeat (first | refine blk_drewN ?_ _ | refine blk_drew ?_ | refine blk_alloc ?_ _)); exact BK102.out⟩, ⟨by (with_reducible repeat (first | refine blk_drewN ?_ _ | refine blk_drew ?_ | refine blk_alloc ?_ _)); refine blk_put (cs := #[.int .u64 t112, .int .u64 t113, .int .u64 t114, .int .u64 x104003_1]) ?_ 3 _ rfl; (with_reducible repeat (first | refine blk_drewN ?_ _ | refine blk_drew ?_ | refine blk_alloc ?_ _)); refine blk_put (cs := #[.int .u64 t112, .int .u64 t113, .int .u64 x104002_1, .int .u64 x104003_1]) ?_ 2 _ rfl; (with_reducible repeat (first | refine blk_drewN ?_ _ | refine blk_drew ?_ | refine blk_alloc ?_ _)); refine blk_put (cs := #[.int .u64 t112, .int .u64 x104001_1, .int .u64 x104002_1, .int .u64 x104003_1]) ?_ 1 _ rfl; (with_reducible repeat (first | refine blk_drewN ?_ _ | refine blk_drew ?_ | refine blk_alloc ?_ _)); refine blk_put (cs := #[.int .u64 x104000_1, .int .u64 x104001_1, .int .u64 x104002_1, .int .u64 x104003_1]) ?_ 0 _ rfl; (with_reducible repeat (first | refine blk_drewN ?_ _ | refine blk_drew ?_ | refine blk_alloc ?_ _)); exact BK103.out⟩, ⟨by repeat (first | (with_reducible first | exact HB.out | apply below_alloc | apply pw_below_drewN | apply below_drew1 | refine below_set ?_ GE102.out | refine below_set ?_ GE103.out) | exact HB.out)⟩⟩
                  · rw [if_neg c16] at H
                    exact absurd H (by simp)
                · rw [if_neg c15] at H
                  exact absurd H (by simp)
            · rw [if_neg c9] at H
              exact absurd H (by simp)
          · rw [if_neg c8] at H
            exact absurd H (by simp)
        · rw [if_neg c7] at H
          have c7b0 : decide (x14_1 < (l0.length : Int)) = false := decide_eq_false c7
          clear c7
          have H' := Aside0.mk H
          clear H
          go_wp2
          go_loopg [42] k1 (fun kq v42 w' => ∃ (x42_2 : Int), v42 = .int .i64 x42_2 ∧ Aside0 (gouachelaw10_BloomSets.l1 kq l0 (l0.length : Int) x42_2 x103000_1 x103001_1 x103002_1 x103003_1 x104000_1 x104001_1 x104002_1 x104003_1 = some r) ∧ Aside0 (kq ≤ k1) ∧ Aside0 (w'.heap[gb102]? = some (.cells #[.int .u64 x103000_1, .int .u64 x103001_1, .int .u64 x103002_1, .int .u64 x103003_1] 74 (0, 0))) ∧ Aside0 (w'.heap[gb103]? = some (.cells #[.int .u64 x104000_1, .int .u64 x104001_1, .int .u64 x104002_1, .int .u64 x104003_1] 74 (0, 0))) ∧ Aside0 (Below w.heap.size w w'))
          case atStart => exact ⟨(0), (by first | rfl | (simp; done) | (simp [*]; done)), H', ⟨Nat.le_refl _⟩, ⟨by (with_reducible repeat (first | refine blk_drewN ?_ _ | refine blk_drew ?_ | refine blk_alloc ?_ _)); exact BK102.out⟩, ⟨by (with_reducible repeat (first | refine blk_drewN ?_ _ | refine blk_drew ?_ | refine blk_alloc ?_ _)); exact BK103.out⟩, ⟨by repeat (first | (with_reducible first | exact HB.out | apply below_alloc | apply pw_below_drewN | apply below_drew1 | refine below_set ?_ GE102.out | refine below_set ?_ GE103.out) | exact HB.out)⟩⟩
          case round =>
            clear H'
            try clear c1
            try clear p1
            try clear q1
            try clear hx1
            try clear c2
            try clear c2b0
            try clear c2b1
            try clear p2
            try clear c3
            try clear p6
            try clear c7
            try clear c7b0
            try clear c8
            try clear c8b0
            try clear c9
            try clear c9b0
            try clear p10
            try clear q10
            try clear hx10
            try clear c11
            try clear p11
            try clear q11
            try clear hx11
            try clear c12
            try clear c15
            try clear c15b0
            try clear c16
            try clear c16b0
            try clear hx104_0
            try clear hx106_0
            try clear hx111_0
            try clear p104
            try clear p106
            try clear p111
            try clear p2
            try clear q104
            try clear q106
            try clear q111
            obtain ⟨x42_2, rfl, HA, HK2, BK102, BK103, HB⟩ := hrel
            cases gk with
            | zero => exact absurd HA.out (by simp [gouachelaw10_BloomSets.l1])
            | succ k2 =>
              have H := HA.out
              clear HA
              simp only [gouachelaw10_BloomSets.l1] at H
              by_cases c32 : x42_2 < (l0.length : Int)
              · rw [if_pos c32] at H
                have c32b0 : decide (x42_2 < (l0.length : Int)) = true := decide_eq_true c32
                clear c32
                by_cases c33 : 0 ≤ x42_2
                · rw [if_pos c33] at H
                  have c33b0 : decide (0 ≤ x42_2) = true := decide_eq_true c33
                  clear c33
                  by_cases c34 : x42_2 < (l0.length : Int)
                  · rw [if_pos c34] at H
                    have c34b0 : decide (x42_2 < (l0.length : Int)) = true := decide_eq_true c34
                    clear c34
                    replace H := Option.bind_eq_some_iff.mp H
                    obtain ⟨t118, A350, H⟩ := H
                    replace H : (if t118 = true then ((bloom_Add.f x103000_1 x103001_1 x103002_1 x103003_1 (rd l0 x42_2)).bind fun bt119 => (if (!(bt119.1 == x103000_1) || (!(bt119.2.1 == x103001_1) || (!(bt119.2.2.1 == x103002_1) || (!(bt119.2.2.2 == x103003_1))))) = true then (some false) else (gouachelaw10_BloomSets.l1 k2 l0 (l0.length : Int) (wrap64 (x42_2 + 1)) x103000_1 x103001_1 x103002_1 x103003_1 x104000_1 x104001_1 x104002_1 x104003_1))) else (some false)) = some r := H
                    have A35 := Aside0.mk A350
                    clear A350
                    by_cases c36 : t118 = true
                    · subst c36
                      have H1 : ((bloom_Add.f x103000_1 x103001_1 x103002_1 x103003_1 (rd l0 x42_2)).bind fun bt119 => (if (!(bt119.1 == x103000_1) || (!(bt119.2.1 == x103001_1) || (!(bt119.2.2.1 == x103002_1) || (!(bt119.2.2.2 == x103003_1))))) = true then (some false) else (gouachelaw10_BloomSets.l1 k2 l0 (l0.length : Int) (wrap64 (x42_2 + 1)) x103000_1 x103001_1 x103002_1 x103003_1 x104000_1 x104001_1 x104002_1 x104003_1))) = some r := by rw [if_pos rfl] at H; exact H
                      clear H
                      have H := H1
                      clear H1
                      replace H := Option.bind_eq_some_iff.mp H
                      obtain ⟨⟨t119, t120, t121, t122⟩, A370, H⟩ := H
                      replace H : (if (!(t119 == x103000_1) || (!(t120 == x103001_1) || (!(t121 == x103002_1) || (!(t122 == x103003_1))))) = true then (some false) else (gouachelaw10_BloomSets.l1 k2 l0 (l0.length : Int) (wrap64 (x42_2 + 1)) x103000_1 x103001_1 x103002_1 x103003_1 x104000_1 x104001_1 x104002_1 x104003_1)) = some r := H
                      have A37 := Aside0.mk A370
                      clear A370
                      by_cases c38 : (!(t119 == x103000_1) || (!(t120 == x103001_1) || (!(t121 == x103002_1) || (!(t122 == x103003_1))))) = true
                      · rw [if_pos c38] at H
                        have c38b0 : (!(t119 == x103000_1) || (!(t120 == x103001_1) || (!(t121 == x103002_1) || (!(t122 == x103003_1))))) = true := c38
                        clear c38
                        obtain rfl := Option.some.inj H
                        have p117 : 0 ≤ (x42_2 : Int) := of_decide_eq_true (by first | (with_reducible assumption) | assumption)
                        have q117 : x42_2 < (l0.length : Int) := of_decide_eq_true (by first | (with_reducible assumption) | assumption)
                        obtain ⟨ad117, e117, hx117_0⟩ := Kd.at_int HR0.out x42_2 p117 q117
                        cases e117
                        replace hx117_0 := (HB.out.cell (World.block_lt_of_cell? w _ hx117_0)).trans hx117_0
                        replace p117 := eq_true p117
                        replace q117 := eq_true q117
                        try go_wp2
                        have n0_ := Aside0.mk (blk_drew BK102.out)
                        have n1_ := Aside0.mk (blk_drew BK103.out)
                        have n2_ := Aside0.mk (below_drew1 HB.out)
                        clear BK102
                        clear BK103
                        clear HB
                        have BK102 := n0_
                        have BK103 := n1_
                        have HB := n2_
                        clear n0_ n1_ n2_
                        refine start_ (n := 11) (S := fun w' => w'.cell? ⟨gb102, 0, none⟩ = some (.int .u64 x103000_1) ∧ w'.cell? ⟨gb102, 1, none⟩ = some (.int .u64 x103001_1) ∧ w'.cell? ⟨gb102, 2, none⟩ = some (.int .u64 x103002_1) ∧ w'.cell? ⟨gb102, 3, none⟩ = some (.int .u64 x103003_1)) (ds := []) #[false, false, false, false, false, false, false, false, false, false, false] (by kernel_rfl) rfl rfl ⟨(blk_cell BK102.out 0).trans rfl, (blk_cell BK102.out 1).trans rfl, (blk_cell BK102.out 2).trans rfl, (blk_cell BK102.out 3).trans rfl⟩ (fun hHeld => ?_); refine with_tabW gouachelaw10_BloomSets.tab15 gouachelaw10_BloomSets.bits15 (fun HT_ HW_ => ?_)
                        generalize wr.drew = w39 at BK102 BK103 HB hHeld ⊢
                        refine pure_ (i := 1) (N := some 47) (v := ?_) (a' := ?_) #[false, true, false, false, false, false, false, false, false, false, false] rfl rfl (any_of HT_.out (by kernel_rfl)) (fun _ _ _ h => h) (Or.inl ⟨by rfl, ?_⟩) ?_ ?_
                        rotate_left
                        · intro w'
                          go_simp
                          with_reducible rfl
                        rotate_left
                        · simp only [Act.put, List.setIfInBounds_toArray, List.set_cons_zero, List.set_cons_succ, i64_w, i32_w]
                          rfl
                        refine take_ (i := 0) (N := some 46) (v := ?_) (a' := ?_) #[true, true, false, false, false, false, false, false, false, false, false] rfl rfl (take_ofW HT_.out HW_.out (by kernel_rfl)) (fun _ _ _ h => h) (Or.inl ⟨by rfl, ?_⟩) hHeld ?_ ?_
                        rotate_left
                        · rintro w' ⟨s0, s1, s2, s3⟩
                          go_simp
                          with_reducible rfl
                        rotate_left
                        · simp only [Act.put, List.setIfInBounds_toArray, List.set_cons_zero, List.set_cons_succ, i64_w, i32_w]
                          rfl
                        refine one_ (i := 2) (N := some 48) #[true, true, true, false, false, false, false, false, false, false, false] rfl rfl (one_of HT_.out (by kernel_rfl)) (by decide) (fun K hK => ?_)
                        refine goes_ Try.func37 (by kernel_rfl) rfl #[.agg #[.int .u64 x103000_1, .int .u64 x103001_1, .int .u64 x103002_1, .int .u64 x103003_1], .int .u32 (rd l0 x42_2)] (by rfl) rfl rfl (by (try simp only [List.map_toArray, List.map_cons, List.map_nil]); first | done | rfl | (simp only [List.length_drop, List.length_take]; rfl)) ?_
                        with_reducible refine (bloom_Has.calls x103000_1 x103001_1 x103002_1 x103003_1 (rd l0 x42_2) true _ A35.out).mono ?_
                        rintro e w40 ⟨rfl, hb⟩
                        refine ⟨_, rfl, ?_⟩
                        have n0_ := Aside0.mk (blk_below (g := gb102) (o := .cells #[.int .u64 x103000_1, .int .u64 x103001_1, .int .u64 x103002_1, .int .u64 x103003_1] 74 (0, 0)) (by (with_reducible repeat (first | refine blk_drewN ?_ _ | refine blk_drew ?_ | refine blk_alloc ?_ _)); exact BK102.out) hb)
                        have n1_ := Aside0.mk (blk_below (g := gb103) (o := .cells #[.int .u64 x104000_1, .int .u64 x104001_1, .int .u64 x104002_1, .int .u64 x104003_1] 74 (0, 0)) (by (with_reducible repeat (first | refine blk_drewN ?_ _ | refine blk_drew ?_ | refine blk_alloc ?_ _)); exact BK103.out) hb)
                        have n2_ := Aside0.mk (below_step (by repeat (first | (with_reducible first | exact HB.out | apply below_alloc | apply pw_below_drewN | apply below_drew1 | refine below_set ?_ GE102.out | refine below_set ?_ GE103.out) | exact HB.out)) hb)
                        clear BK102
                        clear BK103
                        clear HB
                        have BK102 := n0_
                        have BK103 := n1_
                        have HB := n2_
                        clear n0_ n1_ n2_
                        (try clear hb)
                        (try clear hb2)
                        (try clear hk)
                        (try clear hi)
                        refine hK.out _ _ ⟨(blk_cell BK102.out 0).trans rfl, (blk_cell BK102.out 1).trans rfl, (blk_cell BK102.out 2).trans rfl, (blk_cell BK102.out 3).trans rfl⟩ (fun hHeld => ?_)
                        clear hK K
                        refine norm_ (a' := ?_) ?_ ?_
                        rotate_left
                        · show Act.put _ (some 48) _ = _
                          simp only [Act.put, List.setIfInBounds_toArray, List.set_cons_zero, List.set_cons_succ, i64_w, i32_w]
                          rfl
                        refine pure_ (i := 3) (N := some 49) (v := ?_) (a' := ?_) #[true, true, true, true, false, false, false, false, false, false, false] rfl rfl (any_of HT_.out (by kernel_rfl)) (fun _ _ _ h => h) (Or.inl ⟨by rfl, ?_⟩) ?_ ?_
                        rotate_left
                        · intro w'
                          go_simp
                          with_reducible rfl
                        rotate_left
                        · simp only [Act.put, List.setIfInBounds_toArray, List.set_cons_zero, List.set_cons_succ, i64_w, i32_w]
                          rfl
                        refine pure_ (i := 4) (N := some 50) (v := ?_) (a' := ?_) #[true, true, true, true, true, false, false, false, false, false, false] rfl rfl (any_of HT_.out (by kernel_rfl)) (fun _ _ _ h => h) (Or.inl ⟨by rfl, ?_⟩) ?_ ?_
                        rotate_left
                        · intro w'
                          go_simp
                          with_reducible rfl
                        rotate_left
                        · simp only [Act.put, List.setIfInBounds_toArray, List.set_cons_zero, List.set_cons_succ, i64_w, i32_w]
                          rfl
                        refine pure_ (i := 6) (N := some 52) (v := ?_) (a' := ?_) #[true, true, true, true, true, false, true, false, false, false, false] rfl rfl (any_of HT_.out (by kernel_rfl)) (fun _ _ _ h => h) (Or.inl ⟨by rfl, ?_⟩) ?_ ?_
                        rotate_left
                        · intro w'
                          go_simp
                          with_reducible rfl
                        rotate_left
                        · simp only [Act.put, List.setIfInBounds_toArray, List.set_cons_zero, List.set_cons_succ, i64_w, i32_w]
                          rfl
                        refine take_ (i := 5) (N := some 51) (v := ?_) (a' := ?_) #[true, true, true, true, true, true, true, false, false, false, false] rfl rfl (take_ofW HT_.out HW_.out (by kernel_rfl)) (fun _ _ _ h => h) (Or.inl ⟨by rfl, ?_⟩) hHeld ?_ ?_
                        rotate_left
                        · rintro w' ⟨s0, s1, s2, s3⟩
                          go_simp
                          with_reducible rfl
                        rotate_left
                        · simp only [Act.put, List.setIfInBounds_toArray, List.set_cons_zero, List.set_cons_succ, i64_w, i32_w]
                          rfl
                        refine take_ (i := 8) (N := some 54) (v := ?_) (a' := ?_) #[true, true, true, true, true, true, true, false, true, false, false] rfl rfl (take_ofW HT_.out HW_.out (by kernel_rfl)) (fun _ _ _ h => h) (Or.inl ⟨by rfl, ?_⟩) hHeld ?_ ?_
                        rotate_left
                        · rintro w' ⟨s0, s1, s2, s3⟩
                          go_simp
                          with_reducible rfl
                        rotate_left
                        · simp only [Act.put, List.setIfInBounds_toArray, List.set_cons_zero, List.set_cons_succ, i64_w, i32_w]
                          rfl
                        refine one_ (i := 7) (N := some 53) #[true, true, true, true, true, true, true, true, true, false, false] rfl rfl (one_of HT_.out (by kernel_rfl)) (by decide) (fun K hK => ?_)
                        refine goes_ Try.func34 (by kernel_rfl) rfl #[.agg #[.int .u64 x103000_1, .int .u64 x103001_1, .int .u64 x103002_1, .int .u64 x103003_1], .int .u32 (rd l0 x42_2)] (by rfl) rfl rfl (by (try simp only [List.map_toArray, List.map_cons, List.map_nil]); first | done | rfl | (simp only [List.length_drop, List.length_take]; rfl)) ?_
                        with_reducible refine (bloom_Add.calls x103000_1 x103001_1 x103002_1 x103003_1 (rd l0 x42_2) t119 t120 t121 t122 _ A37.out).mono ?_
                        rintro e w41 ⟨rfl, hb⟩
                        refine ⟨_, rfl, ?_⟩
                        have n0_ := Aside0.mk (blk_below (g := gb102) (o := .cells #[.int .u64 x103000_1, .int .u64 x103001_1, .int .u64 x103002_1, .int .u64 x103003_1] 74 (0, 0)) (by (with_reducible repeat (first | refine blk_drewN ?_ _ | refine blk_drew ?_ | refine blk_alloc ?_ _)); exact BK102.out) hb)
                        have n1_ := Aside0.mk (blk_below (g := gb103) (o := .cells #[.int .u64 x104000_1, .int .u64 x104001_1, .int .u64 x104002_1, .int .u64 x104003_1] 74 (0, 0)) (by (with_reducible repeat (first | refine blk_drewN ?_ _ | refine blk_drew ?_ | refine blk_alloc ?_ _)); exact BK103.out) hb)
                        have n2_ := Aside0.mk (below_step (by repeat (first | (with_reducible first | exact HB.out | apply below_alloc | apply pw_below_drewN | apply below_drew1 | refine below_set ?_ GE102.out | refine below_set ?_ GE103.out) | exact HB.out)) hb)
                        clear BK102
                        clear BK103
                        clear HB
                        have BK102 := n0_
                        have BK103 := n1_
                        have HB := n2_
                        clear n0_ n1_ n2_
                        (try clear hb)
                        (try clear hb2)
                        (try clear hk)
                        (try clear hi)
                        refine hK.out _ _ ⟨(blk_cell BK102.out 0).trans rfl, (blk_cell BK102.out 1).trans rfl, (blk_cell BK102.out 2).trans rfl, (blk_cell BK102.out 3).trans rfl⟩ (fun hHeld => ?_)
                        clear hK K
                        refine norm_ (a' := ?_) ?_ ?_
                        rotate_left
                        · show Act.put _ (some 53) _ = _
                          simp only [Act.put, List.setIfInBounds_toArray, List.set_cons_zero, List.set_cons_succ, i64_w, i32_w]
                          rfl
                        refine pure_ (i := 9) (N := some 55) (v := ?_) (a' := ?_) #[true, true, true, true, true, true, true, true, true, true, false] rfl rfl (any_of HT_.out (by kernel_rfl)) (fun _ _ _ h => h) (Or.inl ⟨by rfl, ?_⟩) ?_ ?_
                        rotate_left
                        · intro w'
                          go_simp
                          with_reducible rfl
                        rotate_left
                        · simp only [Act.put, List.setIfInBounds_toArray, List.set_cons_zero, List.set_cons_succ, i64_w, i32_w]
                          rfl
                        refine pure_ (i := 10) (N := some 56) (v := ?_) (a' := ?_) #[true, true, true, true, true, true, true, true, true, true, true] rfl rfl (any_of HT_.out (by kernel_rfl)) (fun _ _ _ h => h) (Or.inl ⟨by rfl, ?_⟩) ?_ ?_
                        rotate_left
                        · intro w'
                          go_simp
                          with_reducible rfl
                        rotate_left
                        · simp only [Act.put, List.setIfInBounds_toArray, List.set_cons_zero, List.set_cons_succ, i64_w, i32_w]
                          rfl
                        refine done_ (done_of HT_.out (by kernel_rfl)) ?_
                        try go_wp2
                        go_ret
                        exact ⟨by first | rfl | (simp [errW_none, errW_some] <;> rfl) | (simp [*, errW_none, errW_some] <;> rfl), by repeat (first | (with_reducible first | exact HB.out | apply below_alloc | apply pw_below_drewN | apply below_drew1 | refine below_set ?_ GE102.out | refine below_set ?_ GE103.out) | exact HB.out)⟩
                      · rw [if_neg c38] at H
                        have c38b0 : (!(t119 == x103000_1) || (!(t120 == x103001_1) || (!(t121 == x103002_1) || (!(t122 == x103003_1))))) = false := by simpa using c38
                        clear c38
                        have H' := Aside0.mk H
                        clear H
                        have p117 : 0 ≤ (x42_2 : Int) := of_decide_eq_true (by first | (with_reducible assumption) | assumption)
                        have q117 : x42_2 < (l0.length : Int) := of_decide_eq_true (by first | (with_reducible assumption) | assumption)
                        obtain ⟨ad117, e117, hx117_0⟩ := Kd.at_int HR0.out x42_2 p117 q117
                        cases e117
                        replace hx117_0 := (HB.out.cell (World.block_lt_of_cell? w _ hx117_0)).trans hx117_0
                        replace p117 := eq_true p117
                        replace q117 := eq_true q117
                        try go_wp2
                        have n0_ := Aside0.mk (blk_drew BK102.out)
                        have n1_ := Aside0.mk (blk_drew BK103.out)
                        have n2_ := Aside0.mk (below_drew1 HB.out)
                        clear BK102
                        clear BK103
                        clear HB
                        have BK102 := n0_
                        have BK103 := n1_
                        have HB := n2_
                        clear n0_ n1_ n2_
                        refine start_ (n := 11) (S := fun w' => w'.cell? ⟨gb102, 0, none⟩ = some (.int .u64 x103000_1) ∧ w'.cell? ⟨gb102, 1, none⟩ = some (.int .u64 x103001_1) ∧ w'.cell? ⟨gb102, 2, none⟩ = some (.int .u64 x103002_1) ∧ w'.cell? ⟨gb102, 3, none⟩ = some (.int .u64 x103003_1)) (ds := []) #[false, false, false, false, false, false, false, false, false, false, false] (by kernel_rfl) rfl rfl ⟨(blk_cell BK102.out 0).trans rfl, (blk_cell BK102.out 1).trans rfl, (blk_cell BK102.out 2).trans rfl, (blk_cell BK102.out 3).trans rfl⟩ (fun hHeld => ?_); refine with_tabW gouachelaw10_BloomSets.tab15 gouachelaw10_BloomSets.bits15 (fun HT_ HW_ => ?_)
                        generalize wr.drew = w42 at BK102 BK103 HB hHeld ⊢
                        refine pure_ (i := 1) (N := some 47) (v := ?_) (a' := ?_) #[false, true, false, false, false, false, false, false, false, false, false] rfl rfl (any_of HT_.out (by kernel_rfl)) (fun _ _ _ h => h) (Or.inl ⟨by rfl, ?_⟩) ?_ ?_
                        rotate_left
                        · intro w'
                          go_simp
                          with_reducible rfl
                        rotate_left
                        · simp only [Act.put, List.setIfInBounds_toArray, List.set_cons_zero, List.set_cons_succ, i64_w, i32_w]
                          rfl
                        refine take_ (i := 0) (N := some 46) (v := ?_) (a' := ?_) #[true, true, false, false, false, false, false, false, false, false, false] rfl rfl (take_ofW HT_.out HW_.out (by kernel_rfl)) (fun _ _ _ h => h) (Or.inl ⟨by rfl, ?_⟩) hHeld ?_ ?_
                        rotate_left
                        · rintro w' ⟨s0, s1, s2, s3⟩
                          go_simp
                          with_reducible rfl
                        rotate_left
                        · simp only [Act.put, List.setIfInBounds_toArray, List.set_cons_zero, List.set_cons_succ, i64_w, i32_w]
                          rfl
                        refine one_ (i := 2) (N := some 48) #[true, true, true, false, false, false, false, false, false, false, false] rfl rfl (one_of HT_.out (by kernel_rfl)) (by decide) (fun K hK => ?_)
                        refine goes_ Try.func37 (by kernel_rfl) rfl #[.agg #[.int .u64 x103000_1, .int .u64 x103001_1, .int .u64 x103002_1, .int .u64 x103003_1], .int .u32 (rd l0 x42_2)] (by rfl) rfl rfl (by (try simp only [List.map_toArray, List.map_cons, List.map_nil]); first | done | rfl | (simp only [List.length_drop, List.length_take]; rfl)) ?_
                        with_reducible refine (bloom_Has.calls x103000_1 x103001_1 x103002_1 x103003_1 (rd l0 x42_2) true _ A35.out).mono ?_
                        rintro e w43 ⟨rfl, hb⟩
                        refine ⟨_, rfl, ?_⟩
                        have n0_ := Aside0.mk (blk_below (g := gb102) (o := .cells #[.int .u64 x103000_1, .int .u64 x103001_1, .int .u64 x103002_1, .int .u64 x103003_1] 74 (0, 0)) (by (with_reducible repeat (first | refine blk_drewN ?_ _ | refine blk_drew ?_ | refine blk_alloc ?_ _)); exact BK102.out) hb)
                        have n1_ := Aside0.mk (blk_below (g := gb103) (o := .cells #[.int .u64 x104000_1, .int .u64 x104001_1, .int .u64 x104002_1, .int .u64 x104003_1] 74 (0, 0)) (by (with_reducible repeat (first | refine blk_drewN ?_ _ | refine blk_drew ?_ | refine blk_alloc ?_ _)); exact BK103.out) hb)
                        have n2_ := Aside0.mk (below_step (by repeat (first | (with_reducible first | exact HB.out | apply below_alloc | apply pw_below_drewN | apply below_drew1 | refine below_set ?_ GE102.out | refine below_set ?_ GE103.out) | exact HB.out)) hb)
                        clear BK102
                        clear BK103
                        clear HB
                        have BK102 := n0_
                        have BK103 := n1_
                        have HB := n2_
                        clear n0_ n1_ n2_
                        (try clear hb)
                        (try clear hb2)
                        (try clear hk)
                        (try clear hi)
                        refine hK.out _ _ ⟨(blk_cell BK102.out 0).trans rfl, (blk_cell BK102.out 1).trans rfl, (blk_cell BK102.out 2).trans rfl, (blk_cell BK102.out 3).trans rfl⟩ (fun hHeld => ?_)
                        clear hK K
                        refine norm_ (a' := ?_) ?_ ?_
                        rotate_left
                        · show Act.put _ (some 48) _ = _
                          simp only [Act.put, List.setIfInBounds_toArray, List.set_cons_zero, List.set_cons_succ, i64_w, i32_w]
                          rfl
                        refine pure_ (i := 3) (N := some 49) (v := ?_) (a' := ?_) #[true, true, true, true, false, false, false, false, false, false, false] rfl rfl (any_of HT_.out (by kernel_rfl)) (fun _ _ _ h => h) (Or.inl ⟨by rfl, ?_⟩) ?_ ?_
                        rotate_left
                        · intro w'
                          go_simp
                          with_reducible rfl
                        rotate_left
                        · simp only [Act.put, List.setIfInBounds_toArray, List.set_cons_zero, List.set_cons_succ, i64_w, i32_w]
                          rfl
                        refine pure_ (i := 4) (N := some 50) (v := ?_) (a' := ?_) #[true, true, true, true, true, false, false, false, false, false, false] rfl rfl (any_of HT_.out (by kernel_rfl)) (fun _ _ _ h => h) (Or.inl ⟨by rfl, ?_⟩) ?_ ?_
                        rotate_left
                        · intro w'
                          go_simp
                          with_reducible rfl
                        rotate_left
                        · simp only [Act.put, List.setIfInBounds_toArray, List.set_cons_zero, List.set_cons_succ, i64_w, i32_w]
                          rfl
                        refine pure_ (i := 6) (N := some 52) (v := ?_) (a' := ?_) #[true, true, true, true, true, false, true, false, false, false, false] rfl rfl (any_of HT_.out (by kernel_rfl)) (fun _ _ _ h => h) (Or.inl ⟨by rfl, ?_⟩) ?_ ?_
                        rotate_left
                        · intro w'
                          go_simp
                          with_reducible rfl
                        rotate_left
                        · simp only [Act.put, List.setIfInBounds_toArray, List.set_cons_zero, List.set_cons_succ, i64_w, i32_w]
                          rfl
                        refine take_ (i := 5) (N := some 51) (v := ?_) (a' := ?_) #[true, true, true, true, true, true, true, false, false, false, false] rfl rfl (take_ofW HT_.out HW_.out (by kernel_rfl)) (fun _ _ _ h => h) (Or.inl ⟨by rfl, ?_⟩) hHeld ?_ ?_
                        rotate_left
                        · rintro w' ⟨s0, s1, s2, s3⟩
                          go_simp
                          with_reducible rfl
                        rotate_left
                        · simp only [Act.put, List.setIfInBounds_toArray, List.set_cons_zero, List.set_cons_succ, i64_w, i32_w]
                          rfl
                        refine take_ (i := 8) (N := some 54) (v := ?_) (a' := ?_) #[true, true, true, true, true, true, true, false, true, false, false] rfl rfl (take_ofW HT_.out HW_.out (by kernel_rfl)) (fun _ _ _ h => h) (Or.inl ⟨by rfl, ?_⟩) hHeld ?_ ?_
                        rotate_left
                        · rintro w' ⟨s0, s1, s2, s3⟩
                          go_simp
                          with_reducible rfl
                        rotate_left
                        · simp only [Act.put, List.setIfInBounds_toArray, List.set_cons_zero, List.set_cons_succ, i64_w, i32_w]
                          rfl
                        refine one_ (i := 7) (N := some 53) #[true, true, true, true, true, true, true, true, true, false, false] rfl rfl (one_of HT_.out (by kernel_rfl)) (by decide) (fun K hK => ?_)
                        refine goes_ Try.func34 (by kernel_rfl) rfl #[.agg #[.int .u64 x103000_1, .int .u64 x103001_1, .int .u64 x103002_1, .int .u64 x103003_1], .int .u32 (rd l0 x42_2)] (by rfl) rfl rfl (by (try simp only [List.map_toArray, List.map_cons, List.map_nil]); first | done | rfl | (simp only [List.length_drop, List.length_take]; rfl)) ?_
                        with_reducible refine (bloom_Add.calls x103000_1 x103001_1 x103002_1 x103003_1 (rd l0 x42_2) t119 t120 t121 t122 _ A37.out).mono ?_
                        rintro e w44 ⟨rfl, hb⟩
                        refine ⟨_, rfl, ?_⟩
                        have n0_ := Aside0.mk (blk_below (g := gb102) (o := .cells #[.int .u64 x103000_1, .int .u64 x103001_1, .int .u64 x103002_1, .int .u64 x103003_1] 74 (0, 0)) (by (with_reducible repeat (first | refine blk_drewN ?_ _ | refine blk_drew ?_ | refine blk_alloc ?_ _)); exact BK102.out) hb)
                        have n1_ := Aside0.mk (blk_below (g := gb103) (o := .cells #[.int .u64 x104000_1, .int .u64 x104001_1, .int .u64 x104002_1, .int .u64 x104003_1] 74 (0, 0)) (by (with_reducible repeat (first | refine blk_drewN ?_ _ | refine blk_drew ?_ | refine blk_alloc ?_ _)); exact BK103.out) hb)
                        have n2_ := Aside0.mk (below_step (by repeat (first | (with_reducible first | exact HB.out | apply below_alloc | apply pw_below_drewN | apply below_drew1 | refine below_set ?_ GE102.out | refine below_set ?_ GE103.out) | exact HB.out)) hb)
                        clear BK102
                        clear BK103
                        clear HB
                        have BK102 := n0_
                        have BK103 := n1_
                        have HB := n2_
                        clear n0_ n1_ n2_
                        (try clear hb)
                        (try clear hb2)
                        (try clear hk)
                        (try clear hi)
                        refine hK.out _ _ ⟨(blk_cell BK102.out 0).trans rfl, (blk_cell BK102.out 1).trans rfl, (blk_cell BK102.out 2).trans rfl, (blk_cell BK102.out 3).trans rfl⟩ (fun hHeld => ?_)
                        clear hK K
                        refine norm_ (a' := ?_) ?_ ?_
                        rotate_left
                        · show Act.put _ (some 53) _ = _
                          simp only [Act.put, List.setIfInBounds_toArray, List.set_cons_zero, List.set_cons_succ, i64_w, i32_w]
                          rfl
                        refine pure_ (i := 9) (N := some 55) (v := ?_) (a' := ?_) #[true, true, true, true, true, true, true, true, true, true, false] rfl rfl (any_of HT_.out (by kernel_rfl)) (fun _ _ _ h => h) (Or.inl ⟨by rfl, ?_⟩) ?_ ?_
                        rotate_left
                        · intro w'
                          go_simp
                          with_reducible rfl
                        rotate_left
                        · simp only [Act.put, List.setIfInBounds_toArray, List.set_cons_zero, List.set_cons_succ, i64_w, i32_w]
                          rfl
                        refine pure_ (i := 10) (N := some 56) (v := ?_) (a' := ?_) #[true, true, true, true, true, true, true, true, true, true, true] rfl rfl (any_of HT_.out (by kernel_rfl)) (fun _ _ _ h => h) (Or.inl ⟨by rfl, ?_⟩) ?_ ?_
                        rotate_left
                        · intro w'
                          go_simp
                          with_reducible rfl
                        rotate_left
                        · simp only [Act.put, List.setIfInBounds_toArray, List.set_cons_zero, List.set_cons_succ, i64_w, i32_w]
                          rfl
                        refine done_ (done_of HT_.out (by kernel_rfl)) ?_
                        try go_wp2
                        go_roundg k2
                        case measure => have := HK1.out; have := HK2.out; omega
                        case rel => exact ⟨(wrap64 (x42_2 + 1)), (by first | rfl | (simp; done) | (simp [*]; done)), H', ⟨by have := HK1.out; have := HK2.out; omega⟩, ⟨by (with_reducible repeat (first | refine blk_drewN ?_ _ | refine blk_drew ?_ | refine blk_alloc ?_ _)); exact BK102.out⟩, ⟨by (with_reducible repeat (first | refine blk_drewN ?_ _ | refine blk_drew ?_ | refine blk_alloc ?_ _)); exact BK103.out⟩, ⟨by repeat (first | (with_reducible first | exact HB.out | apply below_alloc | apply pw_below_drewN | apply below_drew1 | refine below_set ?_ GE102.out | refine below_set ?_ GE103.out) | exact HB.out)⟩⟩
                    · replace c36 := Bool.eq_false_iff.mpr c36
                      subst c36
                      have H1 : (some false) = some r := by rw [if_neg (show ¬ (false = true) by decide)] at H; exact H
                      clear H
                      have H := H1
                      clear H1
                      obtain rfl := Option.some.inj H
                      have p117 : 0 ≤ (x42_2 : Int) := of_decide_eq_true (by first | (with_reducible assumption) | assumption)
                      have q117 : x42_2 < (l0.length : Int) := of_decide_eq_true (by first | (with_reducible assumption) | assumption)
                      obtain ⟨ad117, e117, hx117_0⟩ := Kd.at_int HR0.out x42_2 p117 q117
                      cases e117
                      replace hx117_0 := (HB.out.cell (World.block_lt_of_cell? w _ hx117_0)).trans hx117_0
                      replace p117 := eq_true p117
                      replace q117 := eq_true q117
                      try go_wp2
                      have n0_ := Aside0.mk (blk_drew BK102.out)
                      have n1_ := Aside0.mk (blk_drew BK103.out)
                      have n2_ := Aside0.mk (below_drew1 HB.out)
                      clear BK102
                      clear BK103
                      clear HB
                      have BK102 := n0_
                      have BK103 := n1_
                      have HB := n2_
                      clear n0_ n1_ n2_
                      refine start_ (n := 11) (S := fun w' => w'.cell? ⟨gb102, 0, none⟩ = some (.int .u64 x103000_1) ∧ w'.cell? ⟨gb102, 1, none⟩ = some (.int .u64 x103001_1) ∧ w'.cell? ⟨gb102, 2, none⟩ = some (.int .u64 x103002_1) ∧ w'.cell? ⟨gb102, 3, none⟩ = some (.int .u64 x103003_1)) (ds := []) #[false, false, false, false, false, false, false, false, false, false, false] (by kernel_rfl) rfl rfl ⟨(blk_cell BK102.out 0).trans rfl, (blk_cell BK102.out 1).trans rfl, (blk_cell BK102.out 2).trans rfl, (blk_cell BK102.out 3).trans rfl⟩ (fun hHeld => ?_); refine with_tabW gouachelaw10_BloomSets.tab15 gouachelaw10_BloomSets.bits15 (fun HT_ HW_ => ?_)
                      generalize wr.drew = w45 at BK102 BK103 HB hHeld ⊢
                      refine pure_ (i := 1) (N := some 47) (v := ?_) (a' := ?_) #[false, true, false, false, false, false, false, false, false, false, false] rfl rfl (any_of HT_.out (by kernel_rfl)) (fun _ _ _ h => h) (Or.inl ⟨by rfl, ?_⟩) ?_ ?_
                      rotate_left
                      · intro w'
                        go_simp
                        with_reducible rfl
                      rotate_left
                      · simp only [Act.put, List.setIfInBounds_toArray, List.set_cons_zero, List.set_cons_succ, i64_w, i32_w]
                        rfl
                      refine take_ (i := 0) (N := some 46) (v := ?_) (a' := ?_) #[true, true, false, false, false, false, false, false, false, false, false] rfl rfl (take_ofW HT_.out HW_.out (by kernel_rfl)) (fun _ _ _ h => h) (Or.inl ⟨by rfl, ?_⟩) hHeld ?_ ?_
                      rotate_left
                      · rintro w' ⟨s0, s1, s2, s3⟩
                        go_simp
                        with_reducible rfl
                      rotate_left
                      · simp only [Act.put, List.setIfInBounds_toArray, List.set_cons_zero, List.set_cons_succ, i64_w, i32_w]
                        rfl
                      refine one_ (i := 2) (N := some 48) #[true, true, true, false, false, false, false, false, false, false, false] rfl rfl (one_of HT_.out (by kernel_rfl)) (by decide) (fun K hK => ?_)
                      refine goes_ Try.func37 (by kernel_rfl) rfl #[.agg #[.int .u64 x103000_1, .int .u64 x103001_1, .int .u64 x103002_1, .int .u64 x103003_1], .int .u32 (rd l0 x42_2)] (by rfl) rfl rfl (by (try simp only [List.map_toArray, List.map_cons, List.map_nil]); first | done | rfl | (simp only [List.length_drop, List.length_take]; rfl)) ?_
                      with_reducible refine (bloom_Has.calls x103000_1 x103001_1 x103002_1 x103003_1 (rd l0 x42_2) false _ A35.out).mono ?_
                      rintro e w46 ⟨rfl, hb⟩
                      refine ⟨_, rfl, ?_⟩
                      have n0_ := Aside0.mk (blk_below (g := gb102) (o := .cells #[.int .u64 x103000_1, .int .u64 x103001_1, .int .u64 x103002_1, .int .u64 x103003_1] 74 (0, 0)) (by (with_reducible repeat (first | refine blk_drewN ?_ _ | refine blk_drew ?_ | refine blk_alloc ?_ _)); exact BK102.out) hb)
                      have n1_ := Aside0.mk (blk_below (g := gb103) (o := .cells #[.int .u64 x104000_1, .int .u64 x104001_1, .int .u64 x104002_1, .int .u64 x104003_1] 74 (0, 0)) (by (with_reducible repeat (first | refine blk_drewN ?_ _ | refine blk_drew ?_ | refine blk_alloc ?_ _)); exact BK103.out) hb)
                      have n2_ := Aside0.mk (below_step (by repeat (first | (with_reducible first | exact HB.out | apply below_alloc | apply pw_below_drewN | apply below_drew1 | refine below_set ?_ GE102.out | refine below_set ?_ GE103.out) | exact HB.out)) hb)
                      clear BK102
                      clear BK103
                      clear HB
                      have BK102 := n0_
                      have BK103 := n1_
                      have HB := n2_
                      clear n0_ n1_ n2_
                      (try clear hb)
                      (try clear hb2)
                      (try clear hk)
                      (try clear hi)
                      refine hK.out _ _ ⟨(blk_cell BK102.out 0).trans rfl, (blk_cell BK102.out 1).trans rfl, (blk_cell BK102.out 2).trans rfl, (blk_cell BK102.out 3).trans rfl⟩ (fun hHeld => ?_)
                      clear hK K
                      refine norm_ (a' := ?_) ?_ ?_
                      rotate_left
                      · show Act.put _ (some 48) _ = _
                        simp only [Act.put, List.setIfInBounds_toArray, List.set_cons_zero, List.set_cons_succ, i64_w, i32_w]
                        rfl
                      refine pure_ (i := 3) (N := some 49) (v := ?_) (a' := ?_) #[true, true, true, true, false, false, false, false, false, false, false] rfl rfl (any_of HT_.out (by kernel_rfl)) (fun _ _ _ h => h) (Or.inl ⟨by rfl, ?_⟩) ?_ ?_
                      rotate_left
                      · intro w'
                        go_simp
                        with_reducible rfl
                      rotate_left
                      · simp only [Act.put, List.setIfInBounds_toArray, List.set_cons_zero, List.set_cons_succ, i64_w, i32_w]
                        rfl
                      refine pure_ (i := 4) (N := some 50) (v := ?_) (a' := ?_) #[true, true, true, true, true, false, false, false, false, false, false] rfl rfl (any_of HT_.out (by kernel_rfl)) (fun _ _ _ h => h) (Or.inl ⟨by rfl, ?_⟩) ?_ ?_
                      rotate_left
                      · intro w'
                        go_simp
                        with_reducible rfl
                      rotate_left
                      · simp only [Act.put, List.setIfInBounds_toArray, List.set_cons_zero, List.set_cons_succ, i64_w, i32_w]
                        rfl
                      refine pure_ (i := 5) (N := some 51) (v := undef) (a' := ?_) #[true, true, true, true, true, true, false, false, false, false, false] rfl rfl (any_of HT_.out (by kernel_rfl)) (fun _ _ _ h => h) (Or.inr ⟨by rfl, rfl⟩) ?_ ?_
                      rotate_left
                      · simp only [Act.put, List.setIfInBounds_toArray, List.set_cons_zero, List.set_cons_succ, i64_w, i32_w]
                        rfl
                      refine pure_ (i := 6) (N := some 52) (v := undef) (a' := ?_) #[true, true, true, true, true, true, true, false, false, false, false] rfl rfl (any_of HT_.out (by kernel_rfl)) (fun _ _ _ h => h) (Or.inr ⟨by rfl, rfl⟩) ?_ ?_
                      rotate_left
                      · simp only [Act.put, List.setIfInBounds_toArray, List.set_cons_zero, List.set_cons_succ, i64_w, i32_w]
                        rfl
                      refine pure_ (i := 7) (N := some 53) (v := undef) (a' := ?_) #[true, true, true, true, true, true, true, true, false, false, false] rfl rfl (any_of HT_.out (by kernel_rfl)) (fun _ _ _ h => h) (Or.inr ⟨by rfl, rfl⟩) ?_ ?_
                      rotate_left
                      · simp only [Act.put, List.setIfInBounds_toArray, List.set_cons_zero, List.set_cons_succ, i64_w, i32_w]
                        rfl
                      refine pure_ (i := 8) (N := some 54) (v := undef) (a' := ?_) #[true, true, true, true, true, true, true, true, true, false, false] rfl rfl (any_of HT_.out (by kernel_rfl)) (fun _ _ _ h => h) (Or.inr ⟨by rfl, rfl⟩) ?_ ?_
                      rotate_left
                      · simp only [Act.put, List.setIfInBounds_toArray, List.set_cons_zero, List.set_cons_succ, i64_w, i32_w]
                        rfl
                      refine pure_ (i := 9) (N := some 55) (v := undef) (a' := ?_) #[true, true, true, true, true, true, true, true, true, true, false] rfl rfl (any_of HT_.out (by kernel_rfl)) (fun _ _ _ h => h) (Or.inr ⟨by rfl, rfl⟩) ?_ ?_
                      rotate_left
                      · simp only [Act.put, List.setIfInBounds_toArray, List.set_cons_zero, List.set_cons_succ, i64_w, i32_w]
                        rfl
                      refine pure_ (i := 10) (N := some 56) (v := ?_) (a' := ?_) #[true, true, true, true, true, true, true, true, true, true, true] rfl rfl (any_of HT_.out (by kernel_rfl)) (fun _ _ _ h => h) (Or.inl ⟨by rfl, ?_⟩) ?_ ?_
                      rotate_left
                      · intro w'
                        go_simp
                        with_reducible rfl
                      rotate_left
                      · simp only [Act.put, List.setIfInBounds_toArray, List.set_cons_zero, List.set_cons_succ, i64_w, i32_w]
                        rfl
                      refine done_ (done_of HT_.out (by kernel_rfl)) ?_
                      try go_wp2
                      go_ret
                      exact ⟨by first | rfl | (simp [errW_none, errW_some] <;> rfl) | (simp [*, errW_none, errW_some] <;> rfl), by repeat (first | (with_reducible first | exact HB.out | apply below_alloc | apply pw_below_drewN | apply below_drew1 | refine below_set ?_ GE102.out | refine below_set ?_ GE103.out) | exact HB.out)⟩
                  · rw [if_neg c34] at H
                    exact absurd H (by simp)
                · rw [if_neg c33] at H
                  exact absurd H (by simp)
              · rw [if_neg c32] at H
                have c32b0 : decide (x42_2 < (l0.length : Int)) = false := decide_eq_false c32
                clear c32
                by_cases c47 : (x103000_1 == x104000_1 && (x103001_1 == x104001_1 && (x103002_1 == x104002_1 && (x103003_1 == x104003_1)))) = true
                · rw [if_pos c47] at H
                  have c47b0 : (x103000_1 == x104000_1 && (x103001_1 == x104001_1 && (x103002_1 == x104002_1 && (x103003_1 == x104003_1)))) = true := c47
                  (try (have c47b1 : decide (x103000_1 = x104000_1 && (x103001_1 == x104001_1 && (x103002_1 == x104002_1 && (x103003_1 == x104003_1)))) = true := by simpa using c47))
                  (try (have c47b2 : (x103000_1 == x104000_1 && (x103001_1 == x104001_1 && (x103002_1 == x104002_1 && (x103003_1 == x104003_1)))) = true := by simpa using c47))
                  clear c47
                  replace H := Option.bind_eq_some_iff.mp H
                  obtain ⟨t116, A480, H⟩ := H
                  replace H : (some t116) = some r := H
                  have A48 := Aside0.mk A480
                  clear A480
                  obtain rfl := Option.some.inj H
                  have hnb49 := NB102_103.out
                  have hnc49 := NB103_102.out
                  have hcz50_0 : wr.cell? ⟨gb102, 0, none⟩ = some (.int .u64 x103000_1) := (blk_cell BK102.out 0).trans rfl
                  have hcz50_1 : wr.cell? ⟨gb102, 1, none⟩ = some (.int .u64 x103001_1) := (blk_cell BK102.out 1).trans rfl
                  have hcz50_2 : wr.cell? ⟨gb102, 2, none⟩ = some (.int .u64 x103002_1) := (blk_cell BK102.out 2).trans rfl
                  have hcz50_3 : wr.cell? ⟨gb102, 3, none⟩ = some (.int .u64 x103003_1) := (blk_cell BK102.out 3).trans rfl
                  have hfz50_0 := blk_frozen BK102.out 0
                  have hfz50_1 := blk_frozen BK102.out 1
                  have hfz50_2 := blk_frozen BK102.out 2
                  have hfz50_3 := blk_frozen BK102.out 3
                  have hcz51_0 : wr.cell? ⟨gb103, 0, none⟩ = some (.int .u64 x104000_1) := (blk_cell BK103.out 0).trans rfl
                  have hcz51_1 : wr.cell? ⟨gb103, 1, none⟩ = some (.int .u64 x104001_1) := (blk_cell BK103.out 1).trans rfl
                  have hcz51_2 : wr.cell? ⟨gb103, 2, none⟩ = some (.int .u64 x104002_1) := (blk_cell BK103.out 2).trans rfl
                  have hcz51_3 : wr.cell? ⟨gb103, 3, none⟩ = some (.int .u64 x104003_1) := (blk_cell BK103.out 3).trans rfl
                  have hfz51_0 := blk_frozen BK103.out 0
                  have hfz51_1 := blk_frozen BK103.out 1
                  have hfz51_2 := blk_frozen BK103.out 2
                  have hfz51_3 := blk_frozen BK103.out 3
                  go_wp2_with (first | (go_at_call 32; (with_reducible refine (gouachelaw10_lives.calls k2  t116 _ A48.out).mono ?_); rintro e w52 ⟨rfl, hb⟩; have n0_ := Aside0.mk (blk_below (g := gb102) (o := .cells #[.int .u64 x103000_1, .int .u64 x103001_1, .int .u64 x103002_1, .int .u64 x103003_1] 74 (0, 0)) (by (with_reducible repeat (first | refine blk_drewN ?_ _ | refine blk_drew ?_ | refine blk_alloc ?_ _)); exact BK102.out) hb); have n1_ := Aside0.mk (blk_below (g := gb103) (o := .cells #[.int .u64 x104000_1, .int .u64 x104001_1, .int .u64 x104002_1, .int .u64 x104003_1] 74 (0, 0)) (by (with_reducible repeat (first | refine blk_drewN ?_ _ | refine blk_drew ?_ | refine blk_alloc ?_ _)); exact BK103.out) hb); have n2_ := Aside0.mk (below_step (by repeat (first | (with_reducible first | exact HB.out | apply below_alloc | apply pw_below_drewN | apply below_drew1 | refine below_set ?_ GE102.out | refine below_set ?_ GE103.out) | exact HB.out)) hb); clear BK102; clear BK103; clear HB; have BK102 := n0_; have BK103 := n1_; have HB := n2_; clear n0_ n1_ n2_; (try clear hb); (try clear hb2); (try clear hk); (try clear hi)))
                  go_ret
                  exact ⟨by first | rfl | (simp [errW_none, errW_some] <;> rfl) | (simp [*, errW_none, errW_some] <;> rfl), by repeat (first | (with_reducible first | exact HB.out | apply below_alloc | apply pw_below_drewN | apply below_drew1 | refine below_set ?_ GE102.out | refine below_set ?_ GE103.out) | exact HB.out)⟩
                · rw [if_neg c47] at H
                  have c47b0 : (x103000_1 == x104000_1 && (x103001_1 == x104001_1 && (x103002_1 == x104002_1 && (x103003_1 == x104003_1)))) = false := by simpa using c47
                  (try (have c47b1 : decide (x103000_1 = x104000_1 && (x103001_1 == x104001_1 && (x103002_1 == x104002_1 && (x103003_1 == x104003_1)))) = false := by simpa using c47))
                  (try (have c47b2 : (x103000_1 == x104000_1 && (x103001_1 == x104001_1 && (x103002_1 == x104002_1 && (x103003_1 == x104003_1)))) = false := by simpa using c47))
                  (try (have c47b3 : ¬ (x103000_1 = x104000_1 && (x103001_1 == x104001_1 && (x103002_1 == x104002_1 && (x103003_1 == x104003_1)))) := by simpa using c47))
                  clear c47
                  obtain rfl := Option.some.inj H
                  have hnb53 := NB102_103.out
                  have hnc53 := NB103_102.out
                  have hcz54_0 : wr.cell? ⟨gb102, 0, none⟩ = some (.int .u64 x103000_1) := (blk_cell BK102.out 0).trans rfl
                  have hcz54_1 : wr.cell? ⟨gb102, 1, none⟩ = some (.int .u64 x103001_1) := (blk_cell BK102.out 1).trans rfl
                  have hcz54_2 : wr.cell? ⟨gb102, 2, none⟩ = some (.int .u64 x103002_1) := (blk_cell BK102.out 2).trans rfl
                  have hcz54_3 : wr.cell? ⟨gb102, 3, none⟩ = some (.int .u64 x103003_1) := (blk_cell BK102.out 3).trans rfl
                  have hfz54_0 := blk_frozen BK102.out 0
                  have hfz54_1 := blk_frozen BK102.out 1
                  have hfz54_2 := blk_frozen BK102.out 2
                  have hfz54_3 := blk_frozen BK102.out 3
                  have hcz55_0 : wr.cell? ⟨gb103, 0, none⟩ = some (.int .u64 x104000_1) := (blk_cell BK103.out 0).trans rfl
                  have hcz55_1 : wr.cell? ⟨gb103, 1, none⟩ = some (.int .u64 x104001_1) := (blk_cell BK103.out 1).trans rfl
                  have hcz55_2 : wr.cell? ⟨gb103, 2, none⟩ = some (.int .u64 x104002_1) := (blk_cell BK103.out 2).trans rfl
                  have hcz55_3 : wr.cell? ⟨gb103, 3, none⟩ = some (.int .u64 x104003_1) := (blk_cell BK103.out 3).trans rfl
                  have hfz55_0 := blk_frozen BK103.out 0
                  have hfz55_1 := blk_frozen BK103.out 1
                  have hfz55_2 := blk_frozen BK103.out 2
                  have hfz55_3 := blk_frozen BK103.out 3
                  go_wp2
                  go_ret
                  exact ⟨by first | rfl | (simp [errW_none, errW_some] <;> rfl) | (simp [*, errW_none, errW_some] <;> rfl), by repeat (first | (with_reducible first | exact HB.out | apply below_alloc | apply pw_below_drewN | apply below_drew1 | refine below_set ?_ GE102.out | refine below_set ?_ GE103.out) | exact HB.out)⟩
end Go.Proofs.Ytmkakofnabfinaa.P
end
section
set_option linter.unusedVariables false
set_option linter.unusedSimpArgs false
namespace Go.Proofs.Ytmkakofnabfinaa.P
open Go.RowKit Go.Proofs.YtmkakofnabfinaaW.PrintWords Go.Proofs.YtmkakofnabfinaaW.PrintLast Go.Proofs.YtmkakofnabfinaaW.PrintMore
set_option linter.unusedVariables false
theorem Ev.ifp {α : Type} {p : Prop} [Decidable p] {g f : Nat → Option α} {r : α} (hp : p) (k : Ev g r) : Ev (fun n => if p then g n else f n) r := by simpa only [if_pos hp] using k
theorem Ev.ifn {α : Type} {p : Prop} [Decidable p] {g f : Nat → Option α} {r : α} (hp : ¬ p) (k : Ev f r) : Ev (fun n => if p then g n else f n) r := by simpa only [if_neg hp] using k
theorem or_val (x m : Int) : Go.bits .or .u64 x m = ((BitVec.ofInt 64 x ||| BitVec.ofInt 64 m).toNat : Int) := by
  have h := (BitVec.ofInt 64 x ||| BitVec.ofInt 64 m).isLt
  show IntKind.u64.wrap ((BitVec.ofInt 64 x ||| BitVec.ofInt 64 m).toNat : Int) = _
  generalize (BitVec.ofInt 64 x ||| BitVec.ofInt 64 m).toNat = n at h ⊢
  simp [IntKind.wrap, IntKind.bits, IntKind.signed]
  omega
theorem or_back (x m : Int) : BitVec.ofInt 64 (Go.bits .or .u64 x m) = BitVec.ofInt 64 x ||| BitVec.ofInt 64 m := by
  rw [or_val, BitVec.ofInt_natCast, BitVec.ofNat_toNat]; simp
theorem or_again (x m : Int) : Go.bits .or .u64 (Go.bits .or .u64 x m) m = Go.bits .or .u64 x m := by
  rw [or_val (Go.bits .or .u64 x m), or_back, or_val, BitVec.or_assoc, BitVec.or_self]
theorem or_swap (x m n : Int) : Go.bits .or .u64 (Go.bits .or .u64 x m) n = Go.bits .or .u64 (Go.bits .or .u64 x n) m := by
  rw [or_val (Go.bits .or .u64 x m), or_back, or_val (Go.bits .or .u64 x n), or_back, BitVec.or_assoc, BitVec.or_comm (BitVec.ofInt 64 m), ← BitVec.or_assoc]
theorem or_some (n : Int) : Go.bits .or .u64 0 (IntKind.u64.wrap (2 ^ (n % 64).toNat)) ≠ 0 := by
  have h0 : 0 ≤ n % 64 := Int.emod_nonneg _ (by decide)
  have h1 : n % 64 < 64 := Int.emod_lt_of_pos _ (by decide)
  have hall : ∀ j : Fin 64, Go.bits .or .u64 0 (IntKind.u64.wrap (2 ^ j.val)) ≠ 0 := by decide +kernel
  exact hall ⟨(n % 64).toNat, by omega⟩
abbrev Flt := Int × Int × Int × Int
def bitT (n : Int) (f : Flt) : Flt := (if n < 64 then orB f.1 n else f.1, if 64 ≤ n ∧ n < 128 then orB f.2.1 n else f.2.1, if 128 ≤ n ∧ n < 192 then orB f.2.2.1 n else f.2.2.1, if 192 ≤ n then orB f.2.2.2 n else f.2.2.2)
theorem bit_T (f : Flt) (n : Int) (h0 : 0 ≤ n) (h1 : n < 256) : gouacheref10_bit.f f.1 f.2.1 f.2.2.1 f.2.2.2 n = some (bitT n f) := by
  unfold gouacheref10_bit.f bitT
  rw [if_pos h0]
  by_cases c1 : n < 64
  · simp [c1, show ¬ 64 ≤ n by omega, show ¬ 128 ≤ n by omega, show ¬ 192 ≤ n by omega]
  · by_cases c2 : n < 128
    · simp [c1, c2, show 64 ≤ n by omega, show ¬ 128 ≤ n by omega, show ¬ 192 ≤ n by omega]
    · by_cases c3 : n < 192
      · simp [c1, c2, c3, show 128 ≤ n by omega, show ¬ 192 ≤ n by omega]
      · simp [c1, c2, c3, h1, show 192 ≤ n by omega]
theorem orB_again (x n : Int) : orB (orB x n) n = orB x n := or_again _ _
theorem orB_swap (x m n : Int) : orB (orB x m) n = orB (orB x n) m := or_swap _ _ _
theorem ite_again (c : Prop) [Decidable c] (x n : Int) : (if c then orB (if c then orB x n else x) n else (if c then orB x n else x)) = if c then orB x n else x := by
  by_cases h : c
  · rw [if_pos h, if_pos h]; exact orB_again _ _
  · rw [if_neg h]
theorem ite_swap (c d : Prop) [Decidable c] [Decidable d] (x m n : Int) : (if d then orB (if c then orB x m else x) n else (if c then orB x m else x)) = (if c then orB (if d then orB x n else x) m else (if d then orB x n else x)) := by
  by_cases h : c <;> by_cases h2 : d <;> simp only [if_pos, if_neg, h, h2, not_true, not_false_iff]
  exact orB_swap _ _ _
theorem bitT_again (n : Int) (f : Flt) : bitT n (bitT n f) = bitT n f := by
  unfold bitT
  simp only [ite_again]
theorem bitT_swap (m n : Int) (f : Flt) : bitT n (bitT m f) = bitT m (bitT n f) := by
  unfold bitT
  refine Prod.ext ?_ (Prod.ext ?_ (Prod.ext ?_ ?_))
  · exact ite_swap _ _ _ _ _
  · exact ite_swap _ _ _ _ _
  · exact ite_swap _ _ _ _ _
  · exact ite_swap _ _ _ _ _
def addT (k : Int) (f : Flt) : Flt := bitT (k / 256 % 256) (bitT (k % 256) f)
theorem addT_again (k : Int) (f : Flt) : addT k (addT k f) = addT k f := by
  unfold addT
  rw [bitT_swap (k / 256 % 256) (k % 256), bitT_again, bitT_again]
theorem addT_swap (j k : Int) (f : Flt) : addT k (addT j f) = addT j (addT k f) := by
  unfold addT
  rw [bitT_swap (j / 256 % 256) (k % 256), bitT_swap (j % 256) (k % 256), bitT_swap (j / 256 % 256) (k / 256 % 256), bitT_swap (j % 256) (k / 256 % 256)]
theorem add_T (f : Flt) (k : Int) (h0 : 0 ≤ k) (h1 : k < 4294967296) : bloom_Add.f f.1 f.2.1 f.2.2.1 f.2.2.2 k = some (addT k f) := by
  have a0 : 0 ≤ k % 256 := Int.emod_nonneg _ (by decide)
  have a1 : k % 256 < 256 := Int.emod_lt_of_pos _ (by decide)
  have b0 : 0 ≤ k / 256 % 256 := Int.emod_nonneg _ (by decide)
  have b1 : k / 256 % 256 < 256 := Int.emod_lt_of_pos _ (by decide)
  unfold bloom_Add.f
  rw [if_pos h0, if_pos h1, addL, if_pos (by decide), bit_T f _ a0 a1, Option.bind_some, addL, if_pos (by decide), bit_T _ _ b0 b1, Option.bind_some, addL, if_neg (by decide)]
  rfl
def hasT (k : Int) (f : Flt) : Bool := (addT k f).1 == f.1 && ((addT k f).2.1 == f.2.1 && ((addT k f).2.2.1 == f.2.2.1 && ((addT k f).2.2.2 == f.2.2.2)))
theorem has_T (f : Flt) (k : Int) (h0 : 0 ≤ k) (h1 : k < 4294967296) : bloom_Has.f f.1 f.2.1 f.2.2.1 f.2.2.2 k = some (hasT k f) := by
  unfold bloom_Has.f
  rw [add_T f k h0 h1]; rfl
theorem hasT_of (f : Flt) (k : Int) (h : addT k f = f) : hasT k f = true := by unfold hasT; rw [h]; simp
theorem orB_some (x n : Int) : orB (orB 0 x) n ≠ 0 := by
  intro h
  have h1 : orB 0 x = 0 := by
    have e := orB_again 0 x
    have e2 : orB (orB (orB 0 x) n) x = orB (orB 0 x) n := by rw [orB_swap, orB_again]
    rw [h] at e2
    exact e2
  exact or_some x h1
theorem orB_zero (n : Int) : orB 0 n ≠ 0 := or_some n
theorem hasT_none (k : Int) : hasT k (0, 0, 0, 0) = false := by
  cases h : hasT k (0, 0, 0, 0) with
  | false => rfl
  | true =>
    exfalso
    unfold hasT addT bitT at h
    simp only [Bool.and_eq_true, beq_iff_eq] at h
    obtain ⟨e0, e1, e2, e3⟩ := h
    generalize k % 256 = m at e0 e1 e2 e3
    generalize k / 256 % 256 = n at e0 e1 e2 e3
    by_cases c1 : m < 64
    · rw [if_pos c1] at e0
      by_cases d : n < 64
      · rw [if_pos d] at e0; exact orB_some _ _ e0
      · rw [if_neg d] at e0; exact orB_zero _ e0
    · by_cases c2 : m < 128
      · rw [if_pos (show 64 ≤ m ∧ m < 128 from ⟨by omega, c2⟩)] at e1
        by_cases d : 64 ≤ n ∧ n < 128
        · rw [if_pos d] at e1; exact orB_some _ _ e1
        · rw [if_neg d] at e1; exact orB_zero _ e1
      · by_cases c3 : m < 192
        · rw [if_pos (show 128 ≤ m ∧ m < 192 from ⟨by omega, c3⟩)] at e2
          by_cases d : 128 ≤ n ∧ n < 192
          · rw [if_pos d] at e2; exact orB_some _ _ e2
          · rw [if_neg d] at e2; exact orB_zero _ e2
        · rw [if_pos (show 192 ≤ m by omega)] at e3
          by_cases d : 192 ≤ n
          · rw [if_pos d] at e3; exact orB_some _ _ e3
          · rw [if_neg d] at e3; exact orB_zero _ e3
end Go.Proofs.Ytmkakofnabfinaa.P
end
section
set_option linter.unusedVariables false
set_option linter.unusedSimpArgs false
namespace Go.Proofs.Ytmkakofnabfinaa.P
open Go.RowKit Go.Proofs.YtmkakofnabfinaaW.PrintWords Go.Proofs.YtmkakofnabfinaaW.PrintLast Go.Proofs.YtmkakofnabfinaaW.PrintMore
set_option linter.unusedVariables false
theorem lives_at : gouachelaw10_lives.f 200 = some true := by kernel_rfl
theorem ev_lives : Ev (fun k => gouachelaw10_lives.f k) true := Ev.of (fun k => gouachelaw10_lives.mono k) lives_at
theorem Ev.const {α : Type} {x : Option α} {r : α} (h : x = some r) : Ev (fun _ => x) r := ⟨0, fun _ _ => h⟩
def foldT (l : List Int) (f : Flt) : Flt := l.foldl (fun f k => addT k f) f
theorem foldT_cons (x : Int) (l : List Int) (f : Flt) : foldT (x :: l) f = foldT l (addT x f) := rfl
theorem foldT_snoc (x : Int) (l : List Int) (f : Flt) : foldT (l ++ [x]) f = addT x (foldT l f) := by unfold foldT; rw [List.foldl_append]; rfl
theorem foldT_add (x : Int) : ∀ (l : List Int) (f : Flt), foldT l (addT x f) = addT x (foldT l f)
  | [], _ => rfl
  | y :: l, f => by rw [foldT_cons, foldT_cons, addT_swap, foldT_add x l]
theorem foldT_reverse : ∀ (l : List Int) (f : Flt), foldT l.reverse f = foldT l f
  | [], _ => rfl
  | x :: l, f => by rw [List.reverse_cons, foldT_snoc, foldT_reverse l, foldT_cons, foldT_add]
theorem foldT_has (k : Int) : ∀ (l : List Int) (f : Flt), k ∈ l → addT k (foldT l f) = foldT l f
  | [], _, h => by cases h
  | x :: l, f, h => by
    rcases List.mem_cons.1 h with e | e
    · subst e; rw [foldT_cons, foldT_add, addT_again]
    · rw [foldT_cons]; exact foldT_has k l _ e
def z4 : Flt := (0, 0, 0, 0)
theorem ev_sets1 (l : List Int) (hl : ∀ x, x ∈ l → 0 ≤ x ∧ x < 4294967296) (hn : l.length ≤ 500) (F : Flt) (hF : F = foldT l z4) : ∀ (d i : Nat), i + d = l.length →
    Ev (fun k => gouachelaw10_BloomSets.l1 k l (l.length : Int) (i : Int) F.1 F.2.1 F.2.2.1 F.2.2.2 F.1 F.2.1 F.2.2.1 F.2.2.2) true := by
  intro d
  induction d with
  | zero =>
    intro i hi
    refine Ev.step (fun k => by unfold gouachelaw10_BloomSets.l1; exact rfl) ?_
    exact Ev.ifn (by omega) (Ev.ifp (by simp) (Ev.bind ev_lives (Ev.now true)))
  | succ d ih =>
    intro i hi
    have hlt : i < l.length := by omega
    have hm : rd l (i : Int) ∈ l := by simp [rd, hlt]
    have hr := hl _ hm
    have ha : addT (rd l (i : Int)) F = F := by rw [hF]; exact foldT_has _ _ _ hm
    have e1 : bloom_Has.f F.1 F.2.1 F.2.2.1 F.2.2.2 (rd l (i : Int)) = some true := by rw [has_T F _ hr.1 hr.2, hasT_of _ _ ha]
    have e2 : bloom_Add.f F.1 F.2.1 F.2.2.1 F.2.2.2 (rd l (i : Int)) = some F := by rw [add_T F _ hr.1 hr.2, ha]
    refine Ev.step (fun k => by unfold gouachelaw10_BloomSets.l1; exact rfl) ?_
    refine Ev.ifp (by omega) (Ev.ifp (by omega) (Ev.ifp (by omega) (Ev.bind (Ev.const e1) (Ev.ifp rfl (Ev.bind (Ev.const e2) (Ev.ifn (by simp) ?_))))))
    rw [show wrap64 ((i : Int) + 1) = ((i + 1 : Nat) : Int) by unfold wrap64; omega]
    exact ih (i + 1) (by omega)
theorem ev_sets0 (l : List Int) (hl : ∀ x, x ∈ l → 0 ≤ x ∧ x < 4294967296) (hn : l.length ≤ 500) : ∀ (d i : Nat) (F G : Flt), i + d = l.length → F = foldT (l.take i) z4 → G = foldT (l.reverse.take i) z4 →
    Ev (fun k => gouachelaw10_BloomSets.l0 k l (l.length : Int) (i : Int) F.1 F.2.1 F.2.2.1 F.2.2.2 G.1 G.2.1 G.2.2.1 G.2.2.2) true := by
  intro d
  induction d with
  | zero =>
    intro i F G hi hF hG
    rw [List.take_of_length_le (by omega)] at hF
    rw [List.take_of_length_le (by rw [List.length_reverse]; omega), foldT_reverse] at hG
    have hGF : G = F := by rw [hG, hF]
    refine Ev.step (fun k => by unfold gouachelaw10_BloomSets.l0; exact rfl) ?_
    refine Ev.ifn (by omega) ?_
    rw [hGF]
    exact ev_sets1 l hl hn F hF l.length 0 (by omega)
  | succ d ih =>
    intro i F G hi hF hG
    have hlt : i < l.length := by omega
    have hm : rd l (i : Int) ∈ l := by simp [rd, hlt]
    have hr := hl _ hm
    obtain ⟨j, hj⟩ : ∃ j : Nat, j = l.length - 1 - i := ⟨_, rfl⟩
    have hw : wrap64 (wrap64 ((l.length : Int) - 1) - (i : Int)) = (j : Int) := by unfold wrap64; omega
    have hm2 : rd l (j : Int) ∈ l := by simp [rd, show j < l.length by omega]
    have hr2 := hl _ hm2
    have e1 : bloom_Has.f 0 0 0 0 (rd l (i : Int)) = some false := by rw [has_T (0, 0, 0, 0) _ hr.1 hr.2, hasT_none]
    have e2 := add_T F _ hr.1 hr.2
    have e3 := add_T G _ hr2.1 hr2.2
    refine Ev.step (fun k => by unfold gouachelaw10_BloomSets.l0; exact rfl) ?_
    rw [hw]
    refine Ev.ifp (by omega) (Ev.ifp (by omega) (Ev.ifp (by omega) (Ev.bind (Ev.const e1) (Ev.ifn (by simp) (Ev.bind (Ev.const e2) (Ev.ifp (by omega) (Ev.ifp (by omega) (Ev.bind (Ev.const e3) ?_))))))))
    rw [show wrap64 ((i : Int) + 1) = ((i + 1 : Nat) : Int) by unfold wrap64; omega]
    refine ih (i + 1) _ _ (by omega) ?_ ?_
    · rw [List.take_succ_eq_append_getElem hlt, foldT_snoc, ← hF]
      simp [rd, hlt]
    · have hlr : i < l.reverse.length := by rw [List.length_reverse]; omega
      rw [List.take_succ_eq_append_getElem hlr, foldT_snoc, ← hG, List.getElem_reverse]
      simp [rd, hj, show l.length - 1 - i < l.length by omega]
theorem pure_BloomSets (l : List Int) (hl : ∀ x, x ∈ l → 0 ≤ x ∧ x < 4294967296) : ∃ k, gouachelaw10_BloomSets.f k l = some true := by
  refine Ev.rounds (Ev.congr (fun k => by unfold gouachelaw10_BloomSets.f; exact rfl) ?_)
  by_cases c : (l.length : Int) > 500
  · exact Ev.ifp c (Ev.bind ev_lives (Ev.now true))
  · exact Ev.ifn c (ev_sets0 l hl (by omega) l.length 0 z4 z4 (by omega) rfl rfl)
end Go.Proofs.Ytmkakofnabfinaa.P
end
