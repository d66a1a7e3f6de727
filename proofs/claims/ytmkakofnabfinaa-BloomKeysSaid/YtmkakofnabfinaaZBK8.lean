/- BloomKeys: for every input the law returns true, and each argument reads behind the call as it read before. -/
import Derived.Test.YtmkakofnabfinaaZBK7
import Derived.Test.YtmkakofnabfinaaRows
import Derived.WalkKit
import Derived.ProofKit
import Derived.OpenShut
import Derived.ShutString
import Derived.ChangeOld
import Derived.Below
import Derived.SizedLaws
import Derived.JoinedCond
import Derived.Laws.IdiomArrays
section
set_option linter.unusedVariables false
set_option linter.unusedSimpArgs false
namespace Go.Proofs.Ytmkakofnabfinaa.bloomKeys
open Go.ChangeShapes Go.WideShapes Go.ChangeAt Go.RowKit
open Go.ChangeMaps (open_string shut_string)
set_option linter.unusedVariables false
theorem arr_four : ∀ (cs : Array Value), cs.size = 4 → ∃ c0 c1 c2 c3, cs = #[c0, c1, c2, c3]
  | ⟨[c0, c1, c2, c3]⟩, _ => ⟨c0, c1, c2, c3, rfl⟩
theorem own : ownKnob Try.prog.godebug = none := by kernel_rfl
theorem laidOut : laidOutB Try.prog = true := by kernel_rfl
set_option maxRecDepth 100000 in
theorem lifted (os : Os) (started : os.Started) (H : Type) (enc : TypeId × Value → H) :
    ReturnsInHanded {} Try.checked os 10 .any (Rows.bloomKeysSpec.pre6 enc Try.prog Try.f10 Rows.bloomKeysRow.domain false) (Rows.bloomKeysSpec.post enc Try.prog Try.f10 false true false false) := by
  refine returnsInHanded_of_change_sized (C := Try.checked) own started (by kernel_rfl) Try.func10
    (ChangeSpec.witness6 (enc := enc) (C := Try.checked) false ⟨#[], #[.int .i64 0, .string ByteArray.empty, .agg #[.int .u64 0, .int .u64 0, .int .u64 0, .int .u64 0]], []⟩ 8 (by kernel_rfl) (by kernel_rfl) (by kernel_rfl) (by kernel_rfl)) ?_
  intro W base args ds gs before hval0 hW hcnd hsz0 _
  have hsz : (DataW.weightsEach Try.prog (Try.f10.params.toList ++ Rows.bloomKeysSpec.plain.varTypes Try.prog) (ds ++ gs)).all (· ≤ reachBytes) = true := hsz0
  have hval : ∀ (j : Nat) t v, Try.f10.params[j]? = some t → args[j]? = some v → Value.okWide Try.prog W .any base t v := hval0
  have hW' := hW
  obtain ⟨p, q, hA0, hV, rfl, hfz, hnd⟩ := hW
  have hA : DataW.TrodAll enc Try.prog W 0 (fun _ => true) true Try.f10.params.toList args.toList ds p := hA0
  rw [Try.params10] at hA hval hsz
  obtain ⟨v0, vs0, d0, ds0, p0, q0, hargs, rfl, rfl, h0, r0⟩ := trodAll_cons hA
  obtain ⟨v1, vs1, d1, ds1, p1, q1, rfl, rfl, rfl, h1, r1⟩ := trodAll_cons r0
  obtain ⟨v2, vs2, d2, ds2, p2, q2, rfl, rfl, rfl, h2, r2⟩ := trodAll_cons r1
  obtain ⟨rfl, rfl, rfl⟩ := trodAll_nil r2
  obtain rfl : args = #[v0, v1, v2] := by cases args; simp_all
  obtain ⟨rfl, rfl⟩ := trodVars_none hV
  obtain ⟨a0, rfl, rfl, rfl, w0⟩ := open_int Try.underlying3 (hval 0 3 v0 rfl rfl) h0
  obtain ⟨a1, rfl, rfl, rfl, y1⟩ := open_string Try.underlying9 (hval 1 9 v1 rfl rfl) h1
  have w1 : a1.size ≤ 140737488351232 := by
    have z := sized_string hsz (j := 1) (t := 9) rfl rfl
    rw [Array.length_toList] at z
    exact z
  obtain ⟨cs2, rfl, hs2⟩ : ∃ cs, v2 = .agg cs ∧ cs.size = Try.prog.cellsOf 71 := by
    have z := (hval 2 71 v2 rfl rfl)
    simp only [Value.okWide, Try.underlying71] at z
    obtain ⟨cs, h1, h2, _⟩ := z
    exact ⟨cs, h1, h2⟩
  have k2 := h2
  have lt2 : ∀ x ∈ p2, x.block < W.heap.size := by obtain ⟨m, hm⟩ := k2; exact DataW.trod_lt m _ _ _ hm
  rw [show Try.prog.cellsOf 71 = 4 by kernel_rfl] at hs2
  obtain ⟨c0_2, c1_2, c2_2, c3_2, rfl⟩ : ∃ c0 c1 c2 c3, cs2 = #[c0, c1, c2, c3] := by
    exact arr_four _ hs2
  obtain ⟨x0_2, x1_2, x2_2, x3_2, rfl, rfl, rfl, rfl⟩ : ∃ x0 x1 x2 x3, c0_2 = Value.int .u64 x0 ∧ c1_2 = Value.int .u64 x1 ∧ c2_2 = Value.int .u64 x2 ∧ c3_2 = Value.int .u64 x3 := by
    obtain ⟨fuel, hf⟩ := h2
    obtain ⟨y0, y1, y2, y3, m, hx, hy0, hy1, hy2, hy3⟩ := trod_array4 Try.underlying71 (by kernel_rfl) hf
    obtain ⟨x0, e0, _, _⟩ := DataW.trod_int Try.underlying70 hy0
    obtain ⟨x1, e1, _, _⟩ := DataW.trod_int Try.underlying70 hy1
    obtain ⟨x2, e2, _, _⟩ := DataW.trod_int Try.underlying70 hy2
    obtain ⟨x3, e3, _, _⟩ := DataW.trod_int Try.underlying70 hy3
    simp at e0 e1 e2 e3
    exact ⟨x0, x1, x2, x3, e0, e1, e2, e3⟩
  obtain ⟨k, h⟩ := P.pure_BloomKeys a0 a1 x0_2 x1_2 x2_2 x3_2
  clear hA0 hval0 hsz0 hsz
  refine (P.gouachelaw10_BloomKeys.calls k a0 a1 x0_2 x1_2 x2_2 x3_2 true W  h).mono fun e W' ⟨he, bel⟩ => ?_
  subst he
  exact ⟨_, rfl, _, _, _, [], _, [], hW', trodAll_mk1 (shut_bool Try.underlying4 _), (trodAll_cons_mk (shut_int Try.underlying3 w0) (trodAll_cons_mk (shut_string Try.underlying9 y1) (trodAll_cons_mk (Below.trod laidOut (by kernel_rfl) (of_decide_eq_true (by kernel_rfl)) k2 bel lt2) trodAll_mk0))), rfl, bel.frame _, fun h => by cases h⟩
theorem over : Rows.bloomKeysRow.holds Try.pinned (OpenSpec.ofChange Rows.bloomKeysSpec) :=
  OpenClaim.holds_of_wide 10 Try.f10 rfl rfl rfl rfl rfl rfl rfl ⟨rfl, rfl, rfl, rfl, rfl⟩ rfl rfl rfl rfl rfl (by kernel_rfl) Try.func10 (by kernel_rfl)
    (of_decide_eq_true (by kernel_rfl)) (by unfold Func.isWrapper; first | (rw [if_pos (by decide +kernel)]; kernel_rfl) | (rw [if_neg (by decide +kernel)]; exact ⟨rfl, rfl⟩))
    (fun os started H enc _ => lifted os started H enc)
theorem proved : Rows.BloomKeysSaid := over
end Go.Proofs.Ytmkakofnabfinaa.bloomKeys
namespace Go.Proofs.Ytmkakofnabfinaa
theorem bloomKeys_holds : Rows.BloomKeysSaid := bloomKeys.proved
end Go.Proofs.Ytmkakofnabfinaa
end
