/- WalkOnce: for every input the law returns true, and each argument reads behind the call as it read before. -/
import Derived.Test.YtpnlbmeeihbjaaaZWC9
import Derived.Test.YtpnlbmeeihbjaaaZWC10
section
set_option linter.unusedVariables false
set_option linter.unusedSimpArgs false
namespace Go.Proofs.Ytpnlbmeeihbjaaa.P
open Go.RowKit Go.Proofs.YtpnlbmeeihbjaaaW.PrintWords Go.Proofs.YtpnlbmeeihbjaaaW.PrintLast Go.Proofs.YtpnlbmeeihbjaaaW.PrintMore
attribute [local go_sem] max2_int min2_int max_two min_two max_three min_three max_four min_four
set_option linter.unusedVariables false
set_option linter.unusedSimpArgs false
def el (id : Int) (tag : ByteArray) (p : Int) : S40 := ⟨id, tag, p, [], []⟩
theorem el_K (w : World) (id : Int) (tag : ByteArray) (p : Int) : k40.K w (el id tag p) [.int .i64 id, .string tag, .int .i64 p, .slice none 0 0, .slice none 0 0] :=
  k40_mk w (el id tag p) (A3 := none) (c3 := 0) (A4 := none) (c4 := 0) (Nat.le_refl _) ⟨rfl, by simp [el], fun h => absurd h (by simp [el])⟩ (Nat.le_refl _) ⟨rfl, by simp [el], fun h => absurd h (by simp [el])⟩
theorem TF.zeros {ok : Nat → Prop} {w : World} {b : Nat} (hb : ok b) (h : w.heap[b]? = some (.cells zeros33 112 (0, 0))) : TF ok 4 w (.pointer (some ⟨b, 0, none⟩)) (fun _ => none) :=
  TF.mk hb ⟨h, zeros33_size, by rw [cnt_all_none _ _ (fun _ _ => rfl)]; exact zeros33_last⟩ (KF.zeros ok w 4 (fun _ _ => rfl))
theorem newT_calls (ok : Nat → Prop) (w : World) (hfresh : ∀ k, w.heap.size ≤ k → ok k) : Calls Try.prog 51 #[] w fun e w' => ∃ v, e = .returned v ∧ TrieO ok w' v (fun _ => none) ∧ Below w.heap.size w w' := by
  have hu114 := Try.underlying114
  go_enter Try.func51, Try.ntmps51
  go_wp2_with fail
  go_ret
  have h0 : ((w.alloc (.cells zeros33 112)).alloc (.cells #[.pointer (some ⟨w.heap.size, 0, none⟩)] 114)).heap[w.heap.size]? = some (.cells zeros33 112 (0, 0)) := heap_alloc2_old w (.cells zeros33 112) _
  have h1 : ((w.alloc (.cells zeros33 112)).alloc (.cells #[.pointer (some ⟨w.heap.size, 0, none⟩)] 114)).heap[w.heap.size + 1]? = some (.cells #[.pointer (some ⟨w.heap.size, 0, none⟩)] 114 (0, 0)) := heap_alloc2_new _ _ _
  exact ⟨_, rfl, ⟨w.heap.size + 1, _, rfl, hfresh _ (by omega), h1, TF.zeros (hfresh _ (Nat.le_refl _)) h0⟩, below_alloc (below_alloc (Below.refl _ _) _) _⟩
def newF (tag : ByteArray) : Nat → Option S40 := putF (fun _ => none) 1 (some (el 1 tag 0))
set_option maxHeartbeats 8000000 in
set_option maxRecDepth 100000 in
theorem dnew_calls (ok : Nat → Prop) (n : Nat) (tag : ByteArray) (r : Bool) (w : World) (hfresh : ∀ k, w.heap.size ≤ k → ok k) (hr : nameL tag n 0 = some r) :
    Calls Try.prog 31 #[.string tag] w fun e w' => ∃ v, e = .returned (.tuple #[v, .int .i64 (if r then 0 else 7)]) ∧ (if r then DocO ok w' v (newF tag) 2 else v = .pointer none) ∧ Below w.heap.size w w' := by
  have HR := Aside0.mk hr
  have HFR := Aside0.mk hfresh
  have hu76 := Try.underlying76
  have hu40 := Try.underlying40
  clear hr hfresh
  cases r with
  | false =>
    go_enter Try.func31, Try.ntmps31
    go_wp2_with (first | (go_at_call 50; refine (name_calls n tag false _ HR.out).mono ?_; rintro e w1 ⟨rfl, hb1⟩; have HB1 := Aside0.mk hb1; clear hb1) | fail)
    go_ret2
    exact ⟨_, rfl, rfl, HB1.out⟩
  | true =>
    go_enter Try.func31, Try.ntmps31
    go_wp2_with (first
      | (go_at_call 50; refine (name_calls n tag true _ HR.out).mono ?_; rintro e w1 ⟨rfl, hb1⟩; have HB1 := Aside0.mk hb1; clear hb1)
      | (go_at_call 51; refine (newT_calls ok _ (fun k hk => HFR.out k (Nat.le_trans HB1.out.size hk))).mono ?_; rintro e w2 ⟨v2, rfl, hT, hb2⟩; obtain ⟨q2, rfl⟩ := hT.ptr; have HB2 := Aside0.mk (below_then HB1.out HB1.out.size hb2); have HT := Aside0.mk hT; clear hb2 hT)
      | (go_at_call 52; refine (put_O ok 1 _ _ (el 1 tag 0) _ _ (fun k hk => HFR.out k (Nat.le_trans HB2.out.size hk)) HT.out (fun W _ => el_K W 1 tag 0)).mono ?_; rintro e w3 ⟨v3, rfl, hT3, hb3⟩; obtain ⟨q3, rfl⟩ := hT3.ptr; have HB3 := Aside0.mk (below_then HB2.out HB2.out.size hb3); have HT3 := Aside0.mk hT3; clear hb3 hT3)
      | fail)
    go_ret2
    exact ⟨_, rfl, ⟨_, _, rfl, HFR.out _ HB3.out.size, blk_new _ _, HT3.out.below (below_alloc (Below.refl _ _) _)⟩, below_alloc HB3.out _⟩
end Go.Proofs.Ytpnlbmeeihbjaaa.P
end
