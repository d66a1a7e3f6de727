/- The law TokenWrites (layer 2): the row and its tied card: for every input the law returns true, and the arguments read behind the call as they read before. No condition of ours. -/
import Derived.Test.YtpnlbmeeihbjaabDoorZWT10
import Derived.WalkMore
section
set_option linter.unusedVariables false
set_option linter.unusedSimpArgs false
namespace Go.Proofs.YtpnlbmeeihbjaabDoor.P
open Go.RowKit Go.Proofs.YtpnlbmeeihbjaabDoorW.PrintWords Go.Proofs.YtpnlbmeeihbjaabDoorW.PrintLast Go.Proofs.YtpnlbmeeihbjaabDoorW.PrintMore
open Go.Lib
attribute [local go_sem] max2_int min2_int max_two min_two max_three min_three max_four min_four
set_option linter.unusedVariables false
set_option linter.unusedSimpArgs false
theorem info26_ : (Tryd.prog.info? 26).map (fun i => (i.zero, i.size, i.bytes)) = some (some (.agg #[.int .i64 0, .string ⟨#[]⟩, .string ⟨#[]⟩, .bool false, .bool false]), 5, 48) := by kernel_rfl
theorem Rdr.grown {w0 w w1 : World} {g : Nat} {L s : List Int} (h : Rdr w0 w g L s) {row : Option Nat} (hg : w.grownBy w1 row) (hne : some g ≠ row) (hb : Below w0.heap.size w0 w1) : Rdr w0 w1 g L s := by
  obtain ⟨p, hp, hI⟩ := h.st
  exact ⟨⟨p, hp, hI.grown hg hne⟩, hb, h.ok⟩
set_option maxHeartbeats 16000000 in
set_option maxRecDepth 100000 in
theorem tokens_calls (l : List Int) (A : Option Addr) (c0 : Nat) (w : World) (hC : Kd.C (Kd.int .i32) w A l.length l) (hc : l.length ≤ c0) (hO : OkL l) :
    Calls Tryd.prog 23 #[.slice A l.length c0] w fun e w' => ∃ u, e = .returned u ∧ Kd.R k26 26 w' w.heap.size (fun _ => True) u (toksS l) ∧ Below w.heap.size w w' := by
  have hu63 := Tryd.underlying63
  have hu26 := Tryd.underlying26
  have hu23 := Tryd.underlying23
  have HLB := Aside0.mk hO.1
  obtain ⟨g, hg⟩ : ∃ g, g = w.heap.size := ⟨_, rfl⟩
  have HR : Aside0 (Rdr w (w.alloc (.cells #[.slice A l.length c0, .int .i64 0] 63)) g l l) := ⟨⟨⟨[], rfl, by rw [hg]; exact IsS63.new w w A c0 l 0 (Below.refl _ _) hC hc⟩, below_alloc (Below.refl _ _) _, hO⟩⟩
  clear hC hc hO
  go_enter Tryd.func23, Tryd.ntmps23
  go_wp2_with fail
  go_step3
  go_wp2_with fail
  go_step3
  go_wp2_with fail
  rw [← hg]
  generalize w.alloc (.cells #[.slice A l.length c0, .int .i64 0] 63) = W0 at HR ⊢
  clear hg
  go_loopg [3] (l.length + 1) (fun kq v3 w' => ∃ r out u, u = v3 ∧ Aside0 (toksS l = out ++ toksS r) ∧ Aside0 (r.length < kq) ∧ Aside0 (out.length + r.length ≤ l.length) ∧ Aside0 (Rdr w w' g l r) ∧ Aside0 (Kd.R k26 26 w' w.heap.size (fun k => k ≠ g) u out))
  case atStart => exact ⟨l, [], _, rfl, ⟨rfl⟩, ⟨by omega⟩, ⟨by simp⟩, HR, ⟨Kd.R_nil _ _ _ _ _⟩⟩
  case round =>
    clear HR
    obtain ⟨r, out, u, rfl, HE, HG, HLN, HR, HRW⟩ := hrel
    cases gk with
    | zero => exact absurd HG.out (by omega)
    | succ n =>
      cases r with
      | nil =>
        have HI : Aside0 (([] : List Int).isEmpty = true) := ⟨rfl⟩
        go_wp2_with (first | (go_at_call 47; (with_reducible refine (over_c HR.out).mono ?_); rintro e W ⟨rfl, hr, hk⟩; rw [HI.out]; have HRW := Aside0.mk (Kd.R_step HRW.out (fun k hok hl => hk.2 k hl hok (by simp))); have HR := Aside0.mk hr; clear hr hk) | fail)
        simp only [Exit.noGoto]
        go_ret
        exact ⟨_, rfl, by rw [HE.out, show toksS [] = [] from rfl, List.append_nil]; exact Kd.R_mono HRW.out (fun _ _ => trivial), HR.out.bel⟩
      | cons c t =>
        have HI : Aside0 ((c :: t).isEmpty = false) := ⟨rfl⟩
        have HU := Aside0.mk (toksS_unf c t)
        obtain ⟨tc, htc⟩ : ∃ x, x = comB (c :: t) := ⟨_, rfl⟩
        have HTC := Aside0.mk htc.symm
        rw [← htc] at HU
        cases tc with
        | true =>
          obtain ⟨b, t', rfl⟩ : ∃ b t', t = b :: t' := by
            cases t with
            | nil => simp [comB, pk] at htc
            | cons b t' => exact ⟨b, t', rfl⟩
          have HU2 : Aside0 (toksS (c :: b :: t') = toksS (comS t')) := ⟨by rw [HU.out]; rfl⟩
          have HCL := Aside0.mk (comL_len t'.length t')
          clear htc
          go_wp2_with (first | (go_at_call 47; (with_reducible refine (over_c HR.out).mono ?_); rintro e W ⟨rfl, hr, hk⟩; rw [HI.out]; have HRW := Aside0.mk (Kd.R_step HRW.out (fun k hok hl => hk.2 k hl hok (by simp))); have HR := Aside0.mk hr; clear hr hk) | (go_at_call 48; (with_reducible refine (comB_c HR.out).mono ?_); rintro e W ⟨rfl, hr, hk⟩; rw [HTC.out]; have HRW := Aside0.mk (Kd.R_step HRW.out (fun k hok hl => hk.2 k hl hok (by simp))); have HR := Aside0.mk hr; clear hr hk) | (go_at_call 49; (with_reducible refine (comment_c HR.out).mono ?_); rintro e W ⟨rfl, hr, hk⟩; skip; have HRW := Aside0.mk (Kd.R_step HRW.out (fun k hok hl => hk.2 k hl hok (by simp))); have HR := Aside0.mk hr; clear hr hk) | fail)
          go_roundg n
          case measure => have h1 := HG.out; have h2 := HCL.out; simp only [List.length_cons] at h1; omega
          case rel => exact ⟨comS t', out, _, rfl, ⟨by rw [HE.out, HU2.out]⟩, ⟨by have h1 := HG.out; have h2 : (comS t').length ≤ t'.length := HCL.out; simp only [List.length_cons] at h1; omega⟩, ⟨by have h1 := HLN.out; have h2 : (comS t').length ≤ t'.length := HCL.out; simp only [List.length_cons] at h1; omega⟩, HR, HRW⟩
        | false =>
          have HLT := Aside0.mk (oneK_lt c t)
          obtain ⟨q, hq⟩ : ∃ q, q = oneK (c :: t) := ⟨_, rfl⟩
          have HX := Aside0.mk hq.symm
          rw [← hq] at HLT HU
          have HU2 : Aside0 (toksS (c :: t) = q.1 :: toksS q.2) := ⟨by rw [HU.out]; rfl⟩
          clear htc hq
          obtain ⟨k, hk⟩ : ∃ k, k = wayN (c :: t) := ⟨_, rfl⟩
          have HW := Aside0.mk hk.symm
          have hkc := wayN_cases (c :: t)
          rw [← hk] at hkc
          clear hk
          rcases hkc with rfl | rfl | rfl | rfl | rfl | rfl | rfl | rfl | rfl
          · go_wp2_with (first | (go_at_call 47; (with_reducible refine (over_c HR.out).mono ?_); rintro e W ⟨rfl, hr, hk⟩; rw [HI.out]; have HRW := Aside0.mk (Kd.R_step HRW.out (fun k hok hl => hk.2 k hl hok (by simp))); have HR := Aside0.mk hr; clear hr hk) | (go_at_call 48; (with_reducible refine (comB_c HR.out).mono ?_); rintro e W ⟨rfl, hr, hk⟩; rw [HTC.out]; have HRW := Aside0.mk (Kd.R_step HRW.out (fun k hok hl => hk.2 k hl hok (by simp))); have HR := Aside0.mk hr; clear hr hk) | (go_at_call 50; (with_reducible refine (way_c HR.out).mono ?_); rintro e W ⟨rfl, hr, hk⟩; rw [HW.out]; have HRW := Aside0.mk (Kd.R_step HRW.out (fun k hok hl => hk.2 k hl hok (by simp))); have HR := Aside0.mk hr; clear hr hk) | (go_at_call 64; (with_reducible refine (one64 HW.out HR.out).mono ?_); rw [HX.out]; rintro e W ⟨rfl, hr, hk⟩; (unfold vk tokV); have HRW := Aside0.mk (Kd.R_step HRW.out (fun k hok hl => hk.2 k hl hok (by simp))); have HR := Aside0.mk hr; clear hr hk) | ((with_reducible refine gate_builtin (b := .append) rfl ?_); at_builtin; refine Kd.R_append k26 (w0 := w) w.heap.size rfl (.tmp 15) (.tmp 20) 23 26 (.agg #[.int .i64 0, .string ⟨#[]⟩, .string ⟨#[]⟩, .bool false, .bool false]) 48 rfl Tryd.underlying23 info26_ rfl (by decide) (by decide) _ out q.1 [.int .i64 q.1.f0, .string q.1.f1, .string q.1.f2, .bool q.1.f3, .bool q.1.f4] (fun k => k ≠ g) (fun _ => False) rfl rfl (k26_mkM _ _ _ _) (fun _ h => h.elim) (fun k hk => by have := HR.out.lt.2; omega) HRW.out HR.out.bel HR.out.bel.size (by have := HLN.out; have := HLB.out; omega) ?_; intro v9 w9 hR hb9 hg9 _; have HR9 := Aside0.mk (HR.out.grown hg9 (fun e => HRW.out.1 g e.symm rfl) hb9); have HRW9 := Aside0.mk hR; clear hR hb9 hg9) | fail)
            go_roundg n
            case measure => have h1 := HG.out; have h2 := HLT.out; rw [List.length_cons] at h1; omega
            case rel => exact ⟨q.2, out ++ [q.1], _, rfl, ⟨by rw [HE.out, HU2.out]; simp⟩, ⟨by have h1 := HG.out; have h2 := HLT.out; rw [List.length_cons] at h1; omega⟩, ⟨by have h1 := HLN.out; have h2 := HLT.out; rw [List.length_cons] at h1; rw [List.length_append, List.length_singleton]; omega⟩, HR9, HRW9⟩
          · go_wp2_with (first | (go_at_call 47; (with_reducible refine (over_c HR.out).mono ?_); rintro e W ⟨rfl, hr, hk⟩; rw [HI.out]; have HRW := Aside0.mk (Kd.R_step HRW.out (fun k hok hl => hk.2 k hl hok (by simp))); have HR := Aside0.mk hr; clear hr hk) | (go_at_call 48; (with_reducible refine (comB_c HR.out).mono ?_); rintro e W ⟨rfl, hr, hk⟩; rw [HTC.out]; have HRW := Aside0.mk (Kd.R_step HRW.out (fun k hok hl => hk.2 k hl hok (by simp))); have HR := Aside0.mk hr; clear hr hk) | (go_at_call 50; (with_reducible refine (way_c HR.out).mono ?_); rintro e W ⟨rfl, hr, hk⟩; rw [HW.out]; have HRW := Aside0.mk (Kd.R_step HRW.out (fun k hok hl => hk.2 k hl hok (by simp))); have HR := Aside0.mk hr; clear hr hk) | (go_at_call 65; (with_reducible refine (one65 HW.out HR.out).mono ?_); rw [HX.out]; rintro e W ⟨rfl, hr, hk⟩; (unfold vk tokV); have HRW := Aside0.mk (Kd.R_step HRW.out (fun k hok hl => hk.2 k hl hok (by simp))); have HR := Aside0.mk hr; clear hr hk) | ((with_reducible refine gate_builtin (b := .append) rfl ?_); at_builtin; refine Kd.R_append k26 (w0 := w) w.heap.size rfl (.tmp 15) (.tmp 20) 23 26 (.agg #[.int .i64 0, .string ⟨#[]⟩, .string ⟨#[]⟩, .bool false, .bool false]) 48 rfl Tryd.underlying23 info26_ rfl (by decide) (by decide) _ out q.1 [.int .i64 q.1.f0, .string q.1.f1, .string q.1.f2, .bool q.1.f3, .bool q.1.f4] (fun k => k ≠ g) (fun _ => False) rfl rfl (k26_mkM _ _ _ _) (fun _ h => h.elim) (fun k hk => by have := HR.out.lt.2; omega) HRW.out HR.out.bel HR.out.bel.size (by have := HLN.out; have := HLB.out; omega) ?_; intro v9 w9 hR hb9 hg9 _; have HR9 := Aside0.mk (HR.out.grown hg9 (fun e => HRW.out.1 g e.symm rfl) hb9); have HRW9 := Aside0.mk hR; clear hR hb9 hg9) | fail)
            go_roundg n
            case measure => have h1 := HG.out; have h2 := HLT.out; rw [List.length_cons] at h1; omega
            case rel => exact ⟨q.2, out ++ [q.1], _, rfl, ⟨by rw [HE.out, HU2.out]; simp⟩, ⟨by have h1 := HG.out; have h2 := HLT.out; rw [List.length_cons] at h1; omega⟩, ⟨by have h1 := HLN.out; have h2 := HLT.out; rw [List.length_cons] at h1; rw [List.length_append, List.length_singleton]; omega⟩, HR9, HRW9⟩
          · go_wp2_with (first | (go_at_call 47; (with_reducible refine (over_c HR.out).mono ?_); rintro e W ⟨rfl, hr, hk⟩; rw [HI.out]; have HRW := Aside0.mk (Kd.R_step HRW.out (fun k hok hl => hk.2 k hl hok (by simp))); have HR := Aside0.mk hr; clear hr hk) | (go_at_call 48; (with_reducible refine (comB_c HR.out).mono ?_); rintro e W ⟨rfl, hr, hk⟩; rw [HTC.out]; have HRW := Aside0.mk (Kd.R_step HRW.out (fun k hok hl => hk.2 k hl hok (by simp))); have HR := Aside0.mk hr; clear hr hk) | (go_at_call 50; (with_reducible refine (way_c HR.out).mono ?_); rintro e W ⟨rfl, hr, hk⟩; rw [HW.out]; have HRW := Aside0.mk (Kd.R_step HRW.out (fun k hok hl => hk.2 k hl hok (by simp))); have HR := Aside0.mk hr; clear hr hk) | (go_at_call 67; (with_reducible refine (one67 HW.out HR.out).mono ?_); rw [HX.out]; rintro e W ⟨rfl, hr, hk⟩; (unfold vk tokV); have HRW := Aside0.mk (Kd.R_step HRW.out (fun k hok hl => hk.2 k hl hok (by simp))); have HR := Aside0.mk hr; clear hr hk) | ((with_reducible refine gate_builtin (b := .append) rfl ?_); at_builtin; refine Kd.R_append k26 (w0 := w) w.heap.size rfl (.tmp 15) (.tmp 20) 23 26 (.agg #[.int .i64 0, .string ⟨#[]⟩, .string ⟨#[]⟩, .bool false, .bool false]) 48 rfl Tryd.underlying23 info26_ rfl (by decide) (by decide) _ out q.1 [.int .i64 q.1.f0, .string q.1.f1, .string q.1.f2, .bool q.1.f3, .bool q.1.f4] (fun k => k ≠ g) (fun _ => False) rfl rfl (k26_mkM _ _ _ _) (fun _ h => h.elim) (fun k hk => by have := HR.out.lt.2; omega) HRW.out HR.out.bel HR.out.bel.size (by have := HLN.out; have := HLB.out; omega) ?_; intro v9 w9 hR hb9 hg9 _; have HR9 := Aside0.mk (HR.out.grown hg9 (fun e => HRW.out.1 g e.symm rfl) hb9); have HRW9 := Aside0.mk hR; clear hR hb9 hg9) | fail)
            go_roundg n
            case measure => have h1 := HG.out; have h2 := HLT.out; rw [List.length_cons] at h1; omega
            case rel => exact ⟨q.2, out ++ [q.1], _, rfl, ⟨by rw [HE.out, HU2.out]; simp⟩, ⟨by have h1 := HG.out; have h2 := HLT.out; rw [List.length_cons] at h1; omega⟩, ⟨by have h1 := HLN.out; have h2 := HLT.out; rw [List.length_cons] at h1; rw [List.length_append, List.length_singleton]; omega⟩, HR9, HRW9⟩
          · go_wp2_with (first | (go_at_call 47; (with_reducible refine (over_c HR.out).mono ?_); rintro e W ⟨rfl, hr, hk⟩; rw [HI.out]; have HRW := Aside0.mk (Kd.R_step HRW.out (fun k hok hl => hk.2 k hl hok (by simp))); have HR := Aside0.mk hr; clear hr hk) | (go_at_call 48; (with_reducible refine (comB_c HR.out).mono ?_); rintro e W ⟨rfl, hr, hk⟩; rw [HTC.out]; have HRW := Aside0.mk (Kd.R_step HRW.out (fun k hok hl => hk.2 k hl hok (by simp))); have HR := Aside0.mk hr; clear hr hk) | (go_at_call 50; (with_reducible refine (way_c HR.out).mono ?_); rintro e W ⟨rfl, hr, hk⟩; rw [HW.out]; have HRW := Aside0.mk (Kd.R_step HRW.out (fun k hok hl => hk.2 k hl hok (by simp))); have HR := Aside0.mk hr; clear hr hk) | (go_at_call 69; (with_reducible refine (one69 HW.out HR.out).mono ?_); rw [HX.out]; rintro e W ⟨rfl, hr, hk⟩; (unfold vk tokV); have HRW := Aside0.mk (Kd.R_step HRW.out (fun k hok hl => hk.2 k hl hok (by simp))); have HR := Aside0.mk hr; clear hr hk) | ((with_reducible refine gate_builtin (b := .append) rfl ?_); at_builtin; refine Kd.R_append k26 (w0 := w) w.heap.size rfl (.tmp 15) (.tmp 20) 23 26 (.agg #[.int .i64 0, .string ⟨#[]⟩, .string ⟨#[]⟩, .bool false, .bool false]) 48 rfl Tryd.underlying23 info26_ rfl (by decide) (by decide) _ out q.1 [.int .i64 q.1.f0, .string q.1.f1, .string q.1.f2, .bool q.1.f3, .bool q.1.f4] (fun k => k ≠ g) (fun _ => False) rfl rfl (k26_mkM _ _ _ _) (fun _ h => h.elim) (fun k hk => by have := HR.out.lt.2; omega) HRW.out HR.out.bel HR.out.bel.size (by have := HLN.out; have := HLB.out; omega) ?_; intro v9 w9 hR hb9 hg9 _; have HR9 := Aside0.mk (HR.out.grown hg9 (fun e => HRW.out.1 g e.symm rfl) hb9); have HRW9 := Aside0.mk hR; clear hR hb9 hg9) | fail)
            go_roundg n
            case measure => have h1 := HG.out; have h2 := HLT.out; rw [List.length_cons] at h1; omega
            case rel => exact ⟨q.2, out ++ [q.1], _, rfl, ⟨by rw [HE.out, HU2.out]; simp⟩, ⟨by have h1 := HG.out; have h2 := HLT.out; rw [List.length_cons] at h1; omega⟩, ⟨by have h1 := HLN.out; have h2 := HLT.out; rw [List.length_cons] at h1; rw [List.length_append, List.length_singleton]; omega⟩, HR9, HRW9⟩
          · go_wp2_with (first | (go_at_call 47; (with_reducible refine (over_c HR.out).mono ?_); rintro e W ⟨rfl, hr, hk⟩; rw [HI.out]; have HRW := Aside0.mk (Kd.R_step HRW.out (fun k hok hl => hk.2 k hl hok (by simp))); have HR := Aside0.mk hr; clear hr hk) | (go_at_call 48; (with_reducible refine (comB_c HR.out).mono ?_); rintro e W ⟨rfl, hr, hk⟩; rw [HTC.out]; have HRW := Aside0.mk (Kd.R_step HRW.out (fun k hok hl => hk.2 k hl hok (by simp))); have HR := Aside0.mk hr; clear hr hk) | (go_at_call 50; (with_reducible refine (way_c HR.out).mono ?_); rintro e W ⟨rfl, hr, hk⟩; rw [HW.out]; have HRW := Aside0.mk (Kd.R_step HRW.out (fun k hok hl => hk.2 k hl hok (by simp))); have HR := Aside0.mk hr; clear hr hk) | (go_at_call 70; (with_reducible refine (one70 HW.out HR.out).mono ?_); rw [HX.out]; rintro e W ⟨rfl, hr, hk⟩; (unfold vk tokV); have HRW := Aside0.mk (Kd.R_step HRW.out (fun k hok hl => hk.2 k hl hok (by simp))); have HR := Aside0.mk hr; clear hr hk) | ((with_reducible refine gate_builtin (b := .append) rfl ?_); at_builtin; refine Kd.R_append k26 (w0 := w) w.heap.size rfl (.tmp 15) (.tmp 20) 23 26 (.agg #[.int .i64 0, .string ⟨#[]⟩, .string ⟨#[]⟩, .bool false, .bool false]) 48 rfl Tryd.underlying23 info26_ rfl (by decide) (by decide) _ out q.1 [.int .i64 q.1.f0, .string q.1.f1, .string q.1.f2, .bool q.1.f3, .bool q.1.f4] (fun k => k ≠ g) (fun _ => False) rfl rfl (k26_mkM _ _ _ _) (fun _ h => h.elim) (fun k hk => by have := HR.out.lt.2; omega) HRW.out HR.out.bel HR.out.bel.size (by have := HLN.out; have := HLB.out; omega) ?_; intro v9 w9 hR hb9 hg9 _; have HR9 := Aside0.mk (HR.out.grown hg9 (fun e => HRW.out.1 g e.symm rfl) hb9); have HRW9 := Aside0.mk hR; clear hR hb9 hg9) | fail)
            go_roundg n
            case measure => have h1 := HG.out; have h2 := HLT.out; rw [List.length_cons] at h1; omega
            case rel => exact ⟨q.2, out ++ [q.1], _, rfl, ⟨by rw [HE.out, HU2.out]; simp⟩, ⟨by have h1 := HG.out; have h2 := HLT.out; rw [List.length_cons] at h1; omega⟩, ⟨by have h1 := HLN.out; have h2 := HLT.out; rw [List.length_cons] at h1; rw [List.length_append, List.length_singleton]; omega⟩, HR9, HRW9⟩
          · go_wp2_with (first | (go_at_call 47; (with_reducible refine (over_c HR.out).mono ?_); rintro e W ⟨rfl, hr, hk⟩; rw [HI.out]; have HRW := Aside0.mk (Kd.R_step HRW.out (fun k hok hl => hk.2 k hl hok (by simp))); have HR := Aside0.mk hr; clear hr hk) | (go_at_call 48; (with_reducible refine (comB_c HR.out).mono ?_); rintro e W ⟨rfl, hr, hk⟩; rw [HTC.out]; have HRW := Aside0.mk (Kd.R_step HRW.out (fun k hok hl => hk.2 k hl hok (by simp))); have HR := Aside0.mk hr; clear hr hk) | (go_at_call 50; (with_reducible refine (way_c HR.out).mono ?_); rintro e W ⟨rfl, hr, hk⟩; rw [HW.out]; have HRW := Aside0.mk (Kd.R_step HRW.out (fun k hok hl => hk.2 k hl hok (by simp))); have HR := Aside0.mk hr; clear hr hk) | (go_at_call 71; (with_reducible refine (one71 HW.out HR.out).mono ?_); rw [HX.out]; rintro e W ⟨rfl, hr, hk⟩; (unfold vk tokV); have HRW := Aside0.mk (Kd.R_step HRW.out (fun k hok hl => hk.2 k hl hok (by simp))); have HR := Aside0.mk hr; clear hr hk) | ((with_reducible refine gate_builtin (b := .append) rfl ?_); at_builtin; refine Kd.R_append k26 (w0 := w) w.heap.size rfl (.tmp 15) (.tmp 20) 23 26 (.agg #[.int .i64 0, .string ⟨#[]⟩, .string ⟨#[]⟩, .bool false, .bool false]) 48 rfl Tryd.underlying23 info26_ rfl (by decide) (by decide) _ out q.1 [.int .i64 q.1.f0, .string q.1.f1, .string q.1.f2, .bool q.1.f3, .bool q.1.f4] (fun k => k ≠ g) (fun _ => False) rfl rfl (k26_mkM _ _ _ _) (fun _ h => h.elim) (fun k hk => by have := HR.out.lt.2; omega) HRW.out HR.out.bel HR.out.bel.size (by have := HLN.out; have := HLB.out; omega) ?_; intro v9 w9 hR hb9 hg9 _; have HR9 := Aside0.mk (HR.out.grown hg9 (fun e => HRW.out.1 g e.symm rfl) hb9); have HRW9 := Aside0.mk hR; clear hR hb9 hg9) | fail)
            go_roundg n
            case measure => have h1 := HG.out; have h2 := HLT.out; rw [List.length_cons] at h1; omega
            case rel => exact ⟨q.2, out ++ [q.1], _, rfl, ⟨by rw [HE.out, HU2.out]; simp⟩, ⟨by have h1 := HG.out; have h2 := HLT.out; rw [List.length_cons] at h1; omega⟩, ⟨by have h1 := HLN.out; have h2 := HLT.out; rw [List.length_cons] at h1; rw [List.length_append, List.length_singleton]; omega⟩, HR9, HRW9⟩
          · go_wp2_with (first | (go_at_call 47; (with_reducible refine (over_c HR.out).mono ?_); rintro e W ⟨rfl, hr, hk⟩; rw [HI.out]; have HRW := Aside0.mk (Kd.R_step HRW.out (fun k hok hl => hk.2 k hl hok (by simp))); have HR := Aside0.mk hr; clear hr hk) | (go_at_call 48; (with_reducible refine (comB_c HR.out).mono ?_); rintro e W ⟨rfl, hr, hk⟩; rw [HTC.out]; have HRW := Aside0.mk (Kd.R_step HRW.out (fun k hok hl => hk.2 k hl hok (by simp))); have HR := Aside0.mk hr; clear hr hk) | (go_at_call 50; (with_reducible refine (way_c HR.out).mono ?_); rintro e W ⟨rfl, hr, hk⟩; rw [HW.out]; have HRW := Aside0.mk (Kd.R_step HRW.out (fun k hok hl => hk.2 k hl hok (by simp))); have HR := Aside0.mk hr; clear hr hk) | (go_at_call 73; (with_reducible refine (one73 HW.out HR.out).mono ?_); rw [HX.out]; rintro e W ⟨rfl, hr, hk⟩; (unfold vk tokV); have HRW := Aside0.mk (Kd.R_step HRW.out (fun k hok hl => hk.2 k hl hok (by simp))); have HR := Aside0.mk hr; clear hr hk) | ((with_reducible refine gate_builtin (b := .append) rfl ?_); at_builtin; refine Kd.R_append k26 (w0 := w) w.heap.size rfl (.tmp 15) (.tmp 20) 23 26 (.agg #[.int .i64 0, .string ⟨#[]⟩, .string ⟨#[]⟩, .bool false, .bool false]) 48 rfl Tryd.underlying23 info26_ rfl (by decide) (by decide) _ out q.1 [.int .i64 q.1.f0, .string q.1.f1, .string q.1.f2, .bool q.1.f3, .bool q.1.f4] (fun k => k ≠ g) (fun _ => False) rfl rfl (k26_mkM _ _ _ _) (fun _ h => h.elim) (fun k hk => by have := HR.out.lt.2; omega) HRW.out HR.out.bel HR.out.bel.size (by have := HLN.out; have := HLB.out; omega) ?_; intro v9 w9 hR hb9 hg9 _; have HR9 := Aside0.mk (HR.out.grown hg9 (fun e => HRW.out.1 g e.symm rfl) hb9); have HRW9 := Aside0.mk hR; clear hR hb9 hg9) | fail)
            go_roundg n
            case measure => have h1 := HG.out; have h2 := HLT.out; rw [List.length_cons] at h1; omega
            case rel => exact ⟨q.2, out ++ [q.1], _, rfl, ⟨by rw [HE.out, HU2.out]; simp⟩, ⟨by have h1 := HG.out; have h2 := HLT.out; rw [List.length_cons] at h1; omega⟩, ⟨by have h1 := HLN.out; have h2 := HLT.out; rw [List.length_cons] at h1; rw [List.length_append, List.length_singleton]; omega⟩, HR9, HRW9⟩
          · go_wp2_with (first | (go_at_call 47; (with_reducible refine (over_c HR.out).mono ?_); rintro e W ⟨rfl, hr, hk⟩; rw [HI.out]; have HRW := Aside0.mk (Kd.R_step HRW.out (fun k hok hl => hk.2 k hl hok (by simp))); have HR := Aside0.mk hr; clear hr hk) | (go_at_call 48; (with_reducible refine (comB_c HR.out).mono ?_); rintro e W ⟨rfl, hr, hk⟩; rw [HTC.out]; have HRW := Aside0.mk (Kd.R_step HRW.out (fun k hok hl => hk.2 k hl hok (by simp))); have HR := Aside0.mk hr; clear hr hk) | (go_at_call 50; (with_reducible refine (way_c HR.out).mono ?_); rintro e W ⟨rfl, hr, hk⟩; rw [HW.out]; have HRW := Aside0.mk (Kd.R_step HRW.out (fun k hok hl => hk.2 k hl hok (by simp))); have HR := Aside0.mk hr; clear hr hk) | (go_at_call 74; (with_reducible refine (one74 HW.out HR.out).mono ?_); rw [HX.out]; rintro e W ⟨rfl, hr, hk⟩; (unfold vk tokV); have HRW := Aside0.mk (Kd.R_step HRW.out (fun k hok hl => hk.2 k hl hok (by simp))); have HR := Aside0.mk hr; clear hr hk) | ((with_reducible refine gate_builtin (b := .append) rfl ?_); at_builtin; refine Kd.R_append k26 (w0 := w) w.heap.size rfl (.tmp 15) (.tmp 20) 23 26 (.agg #[.int .i64 0, .string ⟨#[]⟩, .string ⟨#[]⟩, .bool false, .bool false]) 48 rfl Tryd.underlying23 info26_ rfl (by decide) (by decide) _ out q.1 [.int .i64 q.1.f0, .string q.1.f1, .string q.1.f2, .bool q.1.f3, .bool q.1.f4] (fun k => k ≠ g) (fun _ => False) rfl rfl (k26_mkM _ _ _ _) (fun _ h => h.elim) (fun k hk => by have := HR.out.lt.2; omega) HRW.out HR.out.bel HR.out.bel.size (by have := HLN.out; have := HLB.out; omega) ?_; intro v9 w9 hR hb9 hg9 _; have HR9 := Aside0.mk (HR.out.grown hg9 (fun e => HRW.out.1 g e.symm rfl) hb9); have HRW9 := Aside0.mk hR; clear hR hb9 hg9) | fail)
            go_roundg n
            case measure => have h1 := HG.out; have h2 := HLT.out; rw [List.length_cons] at h1; omega
            case rel => exact ⟨q.2, out ++ [q.1], _, rfl, ⟨by rw [HE.out, HU2.out]; simp⟩, ⟨by have h1 := HG.out; have h2 := HLT.out; rw [List.length_cons] at h1; omega⟩, ⟨by have h1 := HLN.out; have h2 := HLT.out; rw [List.length_cons] at h1; rw [List.length_append, List.length_singleton]; omega⟩, HR9, HRW9⟩
          · go_wp2_with (first | (go_at_call 47; (with_reducible refine (over_c HR.out).mono ?_); rintro e W ⟨rfl, hr, hk⟩; rw [HI.out]; have HRW := Aside0.mk (Kd.R_step HRW.out (fun k hok hl => hk.2 k hl hok (by simp))); have HR := Aside0.mk hr; clear hr hk) | (go_at_call 48; (with_reducible refine (comB_c HR.out).mono ?_); rintro e W ⟨rfl, hr, hk⟩; rw [HTC.out]; have HRW := Aside0.mk (Kd.R_step HRW.out (fun k hok hl => hk.2 k hl hok (by simp))); have HR := Aside0.mk hr; clear hr hk) | (go_at_call 50; (with_reducible refine (way_c HR.out).mono ?_); rintro e W ⟨rfl, hr, hk⟩; rw [HW.out]; have HRW := Aside0.mk (Kd.R_step HRW.out (fun k hok hl => hk.2 k hl hok (by simp))); have HR := Aside0.mk hr; clear hr hk) | (go_at_call 75; (with_reducible refine (one75 HW.out HR.out).mono ?_); rw [HX.out]; rintro e W ⟨rfl, hr, hk⟩; (unfold vk tokV); have HRW := Aside0.mk (Kd.R_step HRW.out (fun k hok hl => hk.2 k hl hok (by simp))); have HR := Aside0.mk hr; clear hr hk) | ((with_reducible refine gate_builtin (b := .append) rfl ?_); at_builtin; refine Kd.R_append k26 (w0 := w) w.heap.size rfl (.tmp 15) (.tmp 20) 23 26 (.agg #[.int .i64 0, .string ⟨#[]⟩, .string ⟨#[]⟩, .bool false, .bool false]) 48 rfl Tryd.underlying23 info26_ rfl (by decide) (by decide) _ out q.1 [.int .i64 q.1.f0, .string q.1.f1, .string q.1.f2, .bool q.1.f3, .bool q.1.f4] (fun k => k ≠ g) (fun _ => False) rfl rfl (k26_mkM _ _ _ _) (fun _ h => h.elim) (fun k hk => by have := HR.out.lt.2; omega) HRW.out HR.out.bel HR.out.bel.size (by have := HLN.out; have := HLB.out; omega) ?_; intro v9 w9 hR hb9 hg9 _; have HR9 := Aside0.mk (HR.out.grown hg9 (fun e => HRW.out.1 g e.symm rfl) hb9); have HRW9 := Aside0.mk hR; clear hR hb9 hg9) | fail)
            go_roundg n
            case measure => have h1 := HG.out; have h2 := HLT.out; rw [List.length_cons] at h1; omega
            case rel => exact ⟨q.2, out ++ [q.1], _, rfl, ⟨by rw [HE.out, HU2.out]; simp⟩, ⟨by have h1 := HG.out; have h2 := HLT.out; rw [List.length_cons] at h1; omega⟩, ⟨by have h1 := HLN.out; have h2 := HLT.out; rw [List.length_cons] at h1; rw [List.length_append, List.length_singleton]; omega⟩, HR9, HRW9⟩
end Go.Proofs.YtpnlbmeeihbjaabDoor.P
end
section
set_option linter.unusedVariables false
set_option linter.unusedSimpArgs false
namespace Go.Proofs.YtpnlbmeeihbjaabDoor.P
open Go.RowKit Go.Proofs.YtpnlbmeeihbjaabDoorW.PrintWords Go.Proofs.YtpnlbmeeihbjaabDoorW.PrintLast Go.Proofs.YtpnlbmeeihbjaabDoorW.PrintMore
open Go.Lib
attribute [local go_sem] max2_int min2_int max_two min_two max_three min_three max_four min_four
set_option linter.unusedVariables false
set_option linter.unusedSimpArgs false
open Go.Lib
def runL (S : ByteArray) : Nat → Nat → Int → List Int
  | 0, _, _ => []
  | k + 1, pos, was => if pos < S.size then
      (if ((Utf8.decode S pos).1 : Int) = 10 ∧ was = 13 then [] else [if ((Utf8.decode S pos).1 : Int) = 13 ∨ ((Utf8.decode S pos).1 : Int) = 12 then 10 else if ((Utf8.decode S pos).1 : Int) = 0 then 65533 else ((Utf8.decode S pos).1 : Int)]) ++ runL S k (pos + (Utf8.decode S pos).2) (Utf8.decode S pos).1
    else []
def runS (S : ByteArray) : List Int := runL S (S.size + 1) 0 0
set_option maxHeartbeats 16000000 in
set_option maxRecDepth 100000 in
theorem runes_calls (S : ByteArray) (A : Option Addr) (c0 : Nat) (w : World) (hS : S.size ≤ 1099511627776) (hcv : ∀ W : World, Below w.heap.size w W → (convert 40 9 (.slice A S.size c0)).run Tryd.prog W = .ok (.string S) W) :
    Calls Tryd.prog 24 #[.slice A S.size c0] w fun e w' => ∃ u, e = .returned u ∧ Kd.R (Kd.int .i32) 21 w' w.heap.size (fun _ => True) u (runS S) ∧ Below w.heap.size w w' := by
  obtain ⟨i0, hi, hz0, hz1, hz2⟩ := info_parts info21
  have hu38 := Tryd.underlying38
  have hu9 := Tryd.underlying9
  have HCV := Aside0.mk hcv
  have HSZ := Aside0.mk hS
  have HZ := Aside0.mk hz2
  clear hcv hS
  go_enter Tryd.func24, Tryd.ntmps24
  go_upto_region 3 with (first
    | ((with_reducible refine gate_dst (N := 10) rfl ?_); refine wpList_make_own _ rfl _ _ 38 rfl w.heap.size 21 i0 (.int .i32 0) 1 Tryd.underlying38 hi hz0 hz1 .i64 .i64 _ S.size rfl rfl rfl (by rw [HZ.out]; have := HSZ.out; omega) (by have := HSZ.out; unfold maxLen; omega) (Nat.le_refl _) ?_; intro W1 hown hg1; have HOW := Aside0.mk hown; have HB1 := Aside0.mk ((Below.refl w.heap.size w).grown hg1 (Nat.le_refl _) (fun k hk => by cases hk)); clear hown hg1)
    | fail)
  have hcv1 := HCV.out W1 HB1.out
  clear hi hz0 hz1 hz2
  obtain ⟨u0, hu0⟩ : ∃ u, u = (Value.slice (some ⟨w.heap.size, 0, none⟩) 0 S.size) := ⟨_, rfl⟩
  rw [← hu0] at HOW ⊢
  have hsw : w.heap.size < W1.heap.size := by
    have := HOW.out.2
    rcases this with ⟨h, _⟩ | ⟨g', cap, cur, hv, hb, hh, _⟩
    · rw [hu0] at h; cases h
    · rw [hu0] at hv
      injection hv with hv
      injection hv with hv
      injection hv with hv
      rw [← hv] at hh
      exact blk_lt hh
  have HRW : Aside0 (Kd.R (Kd.int .i32) 21 (W1.iter S 0) w.heap.size (fun k => k ≠ W1.heap.size) u0 []) := ⟨Kd.R_step (Kd.R_of_own (enc := Value.int .i32) (h1 := fun _ => rfl) (xs := ([] : List Int)) HOW.out (fun k hk => by
      rw [hu0] at hk
      have : w.heap.size = k := by simpa [Value.ownBlock] using hk
      omega)) (fun k _ hl => (below_alloc (Below.refl W1.heap.size W1) (.stringIter S 0)).block k hl)⟩
  have HI : Aside0 ((W1.iter S 0).heap[W1.heap.size]? = some (.stringIter S 0)) := ⟨World.iter_heap W1 S 0⟩
  have HB : Aside0 (Below w.heap.size w (W1.iter S 0)) := ⟨below_alloc HB1.out (.stringIter S 0)⟩
  have HGE : Aside0 (w.heap.size ≤ W1.heap.size) := ⟨by omega⟩
  clear hu0 hsw HOW HCV
  go_wp2_with fail
  clear hcv1
  generalize W1.iter S 0 = W2 at HRW HI HB ⊢
  generalize W1.heap.size = gi at HRW HI HGE ⊢
  go_loopg [3, 4, 6, 7] (S.size + 1) (fun kq v3 v4 v6 v7 w' => ∃ (pos : Nat) (was : Int) (out : List Int) (u : Value), u = v3 ∧ v4 = .int .i32 was ∧ Aside0 (runS S = out ++ runL S kq pos was) ∧ Aside0 (out.length + kq ≤ S.size + 1 ∧ S.size + 1 ≤ pos + kq) ∧ Aside0 (w'.heap[gi]? = some (.stringIter S pos)) ∧ Aside0 (Kd.R (Kd.int .i32) 21 w' w.heap.size (fun k => k ≠ gi) u out) ∧ Aside0 (Below w.heap.size w w'))
  case atStart => exact ⟨0, 0, [], _, rfl, rfl, ⟨rfl⟩, ⟨by simp⟩, HI, HRW, HB⟩
  case round =>
    clear HI HRW HB
    obtain ⟨pos, was, out, u, rfl, rfl, HE, HN, HI, HRW, HB⟩ := hrel
    cases gk with
    | zero =>
      have c0 : ¬ pos < S.size := by have := HN.out; omega
      have hnx : ∀ ty, (Instr.next (.pointer (some ⟨gi, 0, none⟩)) true ty).run Tryd.prog wr = .ok (.tuple #[.bool false]) wr := fun ty => run_next_end_at wr gi S pos ty HI.out c0
      clear c0
      go_wp2_with fail
      go_ret
      exact ⟨_, rfl, by rw [HE.out, show runL S 0 pos was = [] from rfl, List.append_nil]; exact Kd.R_mono HRW.out (fun _ _ => trivial), HB.out⟩
    | succ n =>
      by_cases c0 : pos < S.size
      · have hnx : ∀ ty, (Instr.next (.pointer (some ⟨gi, 0, none⟩)) true ty).run Tryd.prog wr = .ok (.tuple #[.bool true, .int .i64 pos, .int .i32 (Utf8.decode S pos).1]) (wr.iterAt gi S (pos + (Utf8.decode S pos).2)) := fun ty => run_next_any_at wr gi S pos ty HI.out c0
        have hE : runS S = out ++ ((if ((Utf8.decode S pos).1 : Int) = 10 ∧ was = 13 then [] else [if ((Utf8.decode S pos).1 : Int) = 13 ∨ ((Utf8.decode S pos).1 : Int) = 12 then 10 else if ((Utf8.decode S pos).1 : Int) = 0 then 65533 else ((Utf8.decode S pos).1 : Int)]) ++ runL S n (pos + (Utf8.decode S pos).2) (Utf8.decode S pos).1) := by rw [HE.out, runL, if_pos c0]
        have HDP : Aside0 (pos + 1 ≤ pos + (Utf8.decode S pos).2) := ⟨by have := dec_pos S pos c0; omega⟩
        have hbi := iter_below (Below.refl gi wr) (Nat.le_refl _) S (pos + (Utf8.decode S pos).2)
        have HI2 := Aside0.mk (iterAt_heap wr gi S pos (pos + (Utf8.decode S pos).2) HI.out)
        have HRW2 : Aside0 (Kd.R (Kd.int .i32) 21 (wr.iterAt gi S (pos + (Utf8.decode S pos).2)) w.heap.size (fun k => k ≠ gi) u out) := ⟨Kd.R_step HRW.out (fun k hk hl => iterAt_other wr gi k S _ hk)⟩
        have HB2 : Aside0 (Below w.heap.size w (wr.iterAt gi S (pos + (Utf8.decode S pos).2))) := ⟨iter_below HB.out HGE.out S _⟩
        have HGL : Aside0 (gi < (wr.iterAt gi S (pos + (Utf8.decode S pos).2)).heap.size) := ⟨blk_lt HI2.out⟩
        generalize wr.iterAt gi S (pos + (Utf8.decode S pos).2) = W3 at HI2 HRW2 HB2 hnx HGL
        have HI := HI2
        have HRW := HRW2
        have HB := HB2
        clear hbi HI2 HRW2 HB2
        generalize pos + (Utf8.decode S pos).2 = pos' at hE HI HDP
        obtain ⟨c, hc⟩ : ∃ c : Int, c = ((Utf8.decode S pos).1 : Int) := ⟨_, rfl⟩
        rw [← hc] at hE hnx
        have hz0 : ∀ x : Int, (if x = 10 ∧ was = 13 then ([] : List Int) else [if x = 13 ∨ x = 12 then 10 else if x = 0 then 65533 else x]) = if x = 10 ∧ was = 13 then ([] : List Int) else [if x = 13 ∨ x = 12 then 10 else if x = 0 then 65533 else x] := fun _ => rfl
        clear hz0 hc
        by_cases a1 : c = 10
        · subst a1
          by_cases a2 : was = 13
          · subst a2
            have HE2 : Aside0 (runS S = out ++ runL S n pos' 10) := ⟨by rw [hE, if_pos ⟨rfl, rfl⟩, List.nil_append]⟩
            clear hE
            go_wp2_with fail
            go_roundg n
            case measure => omega
            case rel => exact ⟨_, _, out, _, rfl, rfl, HE2, ⟨by have := HN.out; have := HDP.out; omega⟩, HI, HRW, HB⟩
          · have HE2 : Aside0 (runS S = (out ++ [10]) ++ runL S n pos' 10) := ⟨by rw [hE, if_neg (fun h => a2 h.2), if_neg (by omega), if_neg (by omega)]; simp⟩
            clear hE
            go_wp2_with (first | ((with_reducible refine gate_builtin (b := .append) (xs := #[.tmp 19, .tmp 21]) rfl ?_); at_builtin; refine Kd.R_append (Kd.int .i32) (w0 := w) w.heap.size rfl (.tmp 19) (.tmp 21) 38 21 (.int .i32 0) 4 rfl Tryd.underlying38 info21 rfl (by decide) (by decide) _ out (10) [.int .i32 (10)] (fun k => k ≠ gi) (fun _ => False) rfl rfl rfl (fun _ h => h.elim) (fun k hk => by have := HGL.out; omega) HRW.out HB.out HB.out.size (by have := HN.out; have := HSZ.out; omega) ?_; intro v9 w9 hR hb9 hg9 _; have HI9 := Aside0.mk ((hg9.block gi HGL.out (fun e => HRW.out.1 gi e.symm rfl)).trans HI.out); have HRW9 := Aside0.mk hR; have HB9 := Aside0.mk hb9; have HGS := Aside0.mk hg9.size; clear hR hb9 hg9) | fail)
            go_roundg n
            case measure => omega
            case rel => exact ⟨_, _, out ++ [10], _, rfl, rfl, HE2, ⟨by have := HN.out; have := HDP.out; rw [List.length_append, List.length_singleton]; omega⟩, HI9, HRW9, HB9⟩
        · by_cases a3 : c = 13
          · subst a3
            have HE2 : Aside0 (runS S = (out ++ [10]) ++ runL S n pos' 13) := ⟨by rw [hE, if_neg (fun h => a1 h.1), if_pos (Or.inl rfl)]; simp⟩
            clear hE
            go_wp2_with (first | ((with_reducible refine gate_builtin (b := .append) (xs := #[.tmp 37, .tmp 38]) rfl ?_); at_builtin; refine Kd.R_append (Kd.int .i32) (w0 := w) w.heap.size rfl (.tmp 37) (.tmp 38) 38 21 (.int .i32 0) 4 rfl Tryd.underlying38 info21 rfl (by decide) (by decide) _ out (10) [.int .i32 (10)] (fun k => k ≠ gi) (fun _ => False) rfl rfl rfl (fun _ h => h.elim) (fun k hk => by have := HGL.out; omega) HRW.out HB.out HB.out.size (by have := HN.out; have := HSZ.out; omega) ?_; intro v9 w9 hR hb9 hg9 _; have HI9 := Aside0.mk ((hg9.block gi HGL.out (fun e => HRW.out.1 gi e.symm rfl)).trans HI.out); have HRW9 := Aside0.mk hR; have HB9 := Aside0.mk hb9; have HGS := Aside0.mk hg9.size; clear hR hb9 hg9) | fail)
            go_roundg n
            case measure => omega
            case rel => exact ⟨_, _, out ++ [10], _, rfl, rfl, HE2, ⟨by have := HN.out; have := HDP.out; rw [List.length_append, List.length_singleton]; omega⟩, HI9, HRW9, HB9⟩
          · by_cases a4 : c = 12
            · subst a4
              have HE2 : Aside0 (runS S = (out ++ [10]) ++ runL S n pos' 12) := ⟨by rw [hE, if_neg (fun h => a1 h.1), if_pos (Or.inr rfl)]; simp⟩
              clear hE
              go_wp2_with (first | ((with_reducible refine gate_builtin (b := .append) (xs := #[.tmp 37, .tmp 38]) rfl ?_); at_builtin; refine Kd.R_append (Kd.int .i32) (w0 := w) w.heap.size rfl (.tmp 37) (.tmp 38) 38 21 (.int .i32 0) 4 rfl Tryd.underlying38 info21 rfl (by decide) (by decide) _ out (10) [.int .i32 (10)] (fun k => k ≠ gi) (fun _ => False) rfl rfl rfl (fun _ h => h.elim) (fun k hk => by have := HGL.out; omega) HRW.out HB.out HB.out.size (by have := HN.out; have := HSZ.out; omega) ?_; intro v9 w9 hR hb9 hg9 _; have HI9 := Aside0.mk ((hg9.block gi HGL.out (fun e => HRW.out.1 gi e.symm rfl)).trans HI.out); have HRW9 := Aside0.mk hR; have HB9 := Aside0.mk hb9; have HGS := Aside0.mk hg9.size; clear hR hb9 hg9) | fail)
              go_roundg n
              case measure => omega
              case rel => exact ⟨_, _, out ++ [10], _, rfl, rfl, HE2, ⟨by have := HN.out; have := HDP.out; rw [List.length_append, List.length_singleton]; omega⟩, HI9, HRW9, HB9⟩
            · by_cases a5 : c = 0
              · subst a5
                have HE2 : Aside0 (runS S = (out ++ [65533]) ++ runL S n pos' 0) := ⟨by rw [hE, if_neg (fun h => a1 h.1), if_neg (by omega), if_pos rfl]; simp⟩
                clear hE
                go_wp2_with (first | ((with_reducible refine gate_builtin (b := .append) (xs := #[.tmp 43, .tmp 44]) rfl ?_); at_builtin; refine Kd.R_append (Kd.int .i32) (w0 := w) w.heap.size rfl (.tmp 43) (.tmp 44) 38 21 (.int .i32 0) 4 rfl Tryd.underlying38 info21 rfl (by decide) (by decide) _ out (65533) [.int .i32 (65533)] (fun k => k ≠ gi) (fun _ => False) rfl rfl rfl (fun _ h => h.elim) (fun k hk => by have := HGL.out; omega) HRW.out HB.out HB.out.size (by have := HN.out; have := HSZ.out; omega) ?_; intro v9 w9 hR hb9 hg9 _; have HI9 := Aside0.mk ((hg9.block gi HGL.out (fun e => HRW.out.1 gi e.symm rfl)).trans HI.out); have HRW9 := Aside0.mk hR; have HB9 := Aside0.mk hb9; have HGS := Aside0.mk hg9.size; clear hR hb9 hg9) | fail)
                go_roundg n
                case measure => omega
                case rel => exact ⟨_, _, out ++ [65533], _, rfl, rfl, HE2, ⟨by have := HN.out; have := HDP.out; rw [List.length_append, List.length_singleton]; omega⟩, HI9, HRW9, HB9⟩
              · have HE2 : Aside0 (runS S = (out ++ [c]) ++ runL S n pos' c) := ⟨by rw [hE, if_neg (fun h => a1 h.1), if_neg (by omega), if_neg a5]; simp⟩
                have d1 : (c == 10) = false := by simp [a1]
                have d2 : (c == 13) = false := by simp [a3]
                have d3 : (c == 12) = false := by simp [a4]
                have d4 : (c == 0) = false := by simp [a5]
                clear hE a1 a3 a4 a5
                go_wp2_with (first | ((with_reducible refine gate_builtin (b := .append) (xs := #[.tmp 19, .tmp 21]) rfl ?_); at_builtin; refine Kd.R_append (Kd.int .i32) (w0 := w) w.heap.size rfl (.tmp 19) (.tmp 21) 38 21 (.int .i32 0) 4 rfl Tryd.underlying38 info21 rfl (by decide) (by decide) _ out (c) [.int .i32 (c)] (fun k => k ≠ gi) (fun _ => False) rfl rfl rfl (fun _ h => h.elim) (fun k hk => by have := HGL.out; omega) HRW.out HB.out HB.out.size (by have := HN.out; have := HSZ.out; omega) ?_; intro v9 w9 hR hb9 hg9 _; have HI9 := Aside0.mk ((hg9.block gi HGL.out (fun e => HRW.out.1 gi e.symm rfl)).trans HI.out); have HRW9 := Aside0.mk hR; have HB9 := Aside0.mk hb9; have HGS := Aside0.mk hg9.size; clear hR hb9 hg9) | fail)
                go_roundg n
                case measure => omega
                case rel => exact ⟨_, _, out ++ [c], _, rfl, rfl, HE2, ⟨by have := HN.out; have := HDP.out; rw [List.length_append, List.length_singleton]; omega⟩, HI9, HRW9, HB9⟩
      · have hnx : ∀ ty, (Instr.next (.pointer (some ⟨gi, 0, none⟩)) true ty).run Tryd.prog wr = .ok (.tuple #[.bool false]) wr := fun ty => run_next_end_at wr gi S pos ty HI.out c0
        have HE2 : Aside0 (runS S = out) := ⟨by rw [HE.out, runL, if_neg c0, List.append_nil]⟩
        clear c0
        go_wp2_with fail
        go_ret
        exact ⟨_, rfl, by rw [HE2.out]; exact Kd.R_mono HRW.out (fun _ _ => trivial), HB.out⟩
end Go.Proofs.YtpnlbmeeihbjaabDoor.P
end
