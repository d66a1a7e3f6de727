/- WalkOnce: for every input the law returns true, and each argument reads behind the call as it read before. -/
import Derived.Test.YtpnlbmeeihbjaaaZWC8
import Derived.Deep.DeepCutAuto
import Derived.Deep.WholeRow
section
set_option linter.unusedVariables false
set_option linter.unusedSimpArgs false
namespace Go.Proofs.Ytpnlbmeeihbjaaa.P
open Go.RowKit Go.Proofs.YtpnlbmeeihbjaaaW.PrintWords Go.Proofs.YtpnlbmeeihbjaaaW.PrintLast Go.Proofs.YtpnlbmeeihbjaaaW.PrintMore
attribute [local go_sem] max2_int min2_int max_two min_two max_three min_three max_four min_four
set_option linter.unusedVariables false
set_option linter.unusedSimpArgs false
def WithPost (ok : Nat → Prop) (w : World) (r m : Nat) (f : Nat → Option S40) (o : Option S40) : Ending → World → Prop :=
  fun e w' => ∃ v', e = .returned v' ∧ TF (fun b => ok b ∨ w.heap.size ≤ b) r w' v' (upd f m o) ∧ (r = 4 → v' ≠ .pointer none) ∧ Below w.heap.size w w'
theorem with_sum (r m : Nat) (f : Nat → Option S40) (o : Option S40) (more : Int) (hm : m < 16 ^ (r + 1)) (hr : r ≤ 4) (h : more = one o - one (f m)) :
    wrap64 (cnt (16 ^ (r + 1)) f + more) = cnt (16 ^ (r + 1)) (upd f m o) := by
  have h1 := cnt_upd _ f m o hm
  have h2 := cnt_range (16 ^ (r + 1)) (upd f m o)
  have h3 : 16 ^ (r + 1) ≤ 16 ^ 5 := Nat.pow_le_pow_right (by decide) (by omega)
  rw [show cnt (16 ^ (r + 1)) f + more = cnt (16 ^ (r + 1)) (upd f m o) by omega]
  generalize cnt (16 ^ (r + 1)) (upd f m o) = x at h2 ⊢
  generalize 16 ^ (r + 1) = N at h2 h3
  unfold wrap64; omega
theorem below_row {w W : World} {g : Nat} {cs : Array Value} (h : Below w.heap.size w W) (hg : w.heap.size ≤ g) : Below w.heap.size w (W.setRow g cs) :=
  ⟨h.os, h.tape, h.output, by rw [setRow_size]; exact h.size, fun k hk => (setRow_other W g k cs (by omega)).trans (h.block k hk)⟩
structure Mid (ok : Nat → Prop) (w W : World) (r : Nat) (cs : Array Value) (c : Int) (f : Nat → Option S40) : Prop where
  blk : W.heap[w.heap.size]? = some (.cells cs 112 (0, 0))
  size : cs.size = 33
  last : cs[32]? = some (.int .i64 c)
  kids : KF ok r w cs f
  below : Below w.heap.size w W
theorem Mid.sized {ok : Nat → Prop} {w W : World} {r : Nat} {cs : Array Value} {c : Int} {f : Nat → Option S40} (h : Mid ok w W r cs c f) (c1 : Int) :
    Mid ok w (W.setCell ⟨w.heap.size, 32, none⟩ (.int .i64 c1)) r (cs.setIfInBounds 32 (.int .i64 c1)) c1 f :=
  ⟨blk_put h.blk 32 _ rfl, by simpa using h.size, Array.getElem?_setIfInBounds_self_of_lt (by rw [h.size]; decide), KF.cells (fun k hk => Array.getElem?_setIfInBounds_ne (by omega)) h.kids, below_set h.below (Nat.le_refl _)⟩
theorem old_same {w W : World} (h : Below w.heap.size w W) (ok : Nat → Prop) : ∀ k, ok k → k < w.heap.size → W.heap[k]? = w.heap[k]? := fun k _ hk => h.block k hk
theorem Mid.leaf {ok : Nat → Prop} {w W : World} {cs : Array Value} {c : Int} {f : Nat → Option S40} (h : Mid ok w W 0 cs c f) (k : Nat) (hk : k < 16) (v : Value) (o : Option S40) (hv : NF ok w v o) (hc : c = cnt 16 (upd f k o)) :
    TF (fun b => ok b ∨ w.heap.size ≤ b) 0 (W.setCell ⟨w.heap.size, 16 + k, none⟩ v) (.pointer (some ⟨w.heap.size, 0, none⟩)) (upd f k o) := by
  have hb : Below w.heap.size w (W.setCell ⟨w.heap.size, 16 + k, none⟩ v) := below_set h.below (Nat.le_refl _)
  refine TF.mk (r := 0) (.inr (Nat.le_refl _)) ⟨blk_put h.blk (16 + k) v rfl, by simpa using h.size, ?_⟩ ?_
  · rw [Array.getElem?_setIfInBounds_ne (by omega), h.last, hc]
  · intro j hj
    obtain ⟨h1, u, hu, hn⟩ := h.kids j hj
    refine ⟨by rw [Array.getElem?_setIfInBounds_ne (by omega)]; exact h1, ?_⟩
    by_cases e : j = k
    · subst e
      refine ⟨v, Array.getElem?_setIfInBounds_self_of_lt (by rw [h.size]; omega), ?_⟩
      rw [upd_same]
      exact hv.step (old_same hb ok) (fun _ => .inl)
    · refine ⟨u, by rw [Array.getElem?_setIfInBounds_ne (by omega)]; exact hu, ?_⟩
      rw [upd_other f k o j e]
      exact hn.step (old_same hb ok) (fun _ => .inl)
theorem upd_kid (f : Nat → Option S40) (o : Option S40) (N k m j j' : Nat) (hm : m < N) (hj : j < N) : upd f (k * N + m) o (j' * N + j) = if j' = k then upd (fun i => f (k * N + i)) m o j else f (j' * N + j) := by
  by_cases e : j' = k
  · subst e
    rw [if_pos rfl]
    unfold upd
    by_cases e2 : j = m
    · subst e2; rw [if_pos rfl, if_pos rfl]
    · rw [if_neg (by omega), if_neg e2]
  · rw [if_neg e, upd_other]
    intro h
    rcases Nat.lt_or_gt_of_ne e with q | q
    · have := Nat.mul_le_mul_right N (show j' + 1 ≤ k by omega)
      rw [Nat.add_mul] at this; omega
    · have := Nat.mul_le_mul_right N (show k + 1 ≤ j' by omega)
      rw [Nat.add_mul] at this; omega
theorem Mid.node {ok : Nat → Prop} {w W W1 : World} {r : Nat} {cs : Array Value} {c : Int} {f : Nat → Option S40} (h : Mid ok w W (r + 1) cs c f) (hok : ∀ b, ok b → b < w.heap.size) (hb1 : Below W.heap.size W W1) (k m : Nat) (hk : k < 16) (hm : m < 16 ^ (r + 1)) (v : Value) (o : Option S40)
    (hv : TF (fun b => ok b ∨ W.heap.size ≤ b) r W1 v (upd (fun j => f (k * 16 ^ (r + 1) + j)) m o)) (hc : c = cnt (16 ^ (r + 2)) (upd f (k * 16 ^ (r + 1) + m) o)) :
    TF (fun b => ok b ∨ w.heap.size ≤ b) (r + 1) (W1.setCell ⟨w.heap.size, k, none⟩ v) (.pointer (some ⟨w.heap.size, 0, none⟩)) (upd f (k * 16 ^ (r + 1) + m) o) := by
  have hbW : Below w.heap.size w W1 := below_then h.below h.below.size hb1
  have hb : Below w.heap.size w (W1.setCell ⟨w.heap.size, k, none⟩ v) := below_set hbW (Nat.le_refl _)
  refine TF.mk (r := r + 1) (.inr (Nat.le_refl _)) ⟨blk_put (blk_below h.blk hb1) k v rfl, by simpa using h.size, ?_⟩ ?_
  · rw [Array.getElem?_setIfInBounds_ne (by omega), h.last, hc]
  · intro j hj
    obtain ⟨⟨u, hu, hn⟩, h2⟩ := h.kids j hj
    refine ⟨?_, by rw [Array.getElem?_setIfInBounds_ne (by omega)]; exact h2⟩
    by_cases e : j = k
    · subst e
      refine ⟨v, Array.getElem?_setIfInBounds_self_of_lt (by rw [h.size]; omega), ?_⟩
      refine TF.same r (fun i hi => (by rw [upd_kid f o (16 ^ (r + 1)) j m i j hm hi, if_pos rfl])) (TF.step (fun b hb2 hlt => ?_) (fun b hb2 => ?_) r hv)
      · refine heap_setCell_other W1 _ b v ?_
        show b ≠ w.heap.size
        rcases hb2 with q | q
        · have := hok b q; omega
        · have := blk_lt h.blk; omega
      · rcases hb2 with q | q
        · exact .inl q
        · exact .inr (by have := blk_lt h.blk; omega)
    · refine ⟨u, by rw [Array.getElem?_setIfInBounds_ne (by omega)]; exact hu, ?_⟩
      refine TF.same r (fun i hi => (by rw [upd_kid f o (16 ^ (r + 1)) k m i j hm hi, if_neg e])) (TF.step (old_same hb ok) (fun _ => .inl) r hn)
def RecOK (r n : Nat) (v : Value) (more : Int) (o : Option S40) : Prop :=
  ∀ (ok : Nat → Prop) (x : Value) (f : Nat → Option S40) (w : World), (∀ b, ok b → b < w.heap.size) → TF ok r w x f → NF ok w v o → more = one o - one (f (n % 16 ^ (r + 1))) →
    Calls Try.prog 82 #[x, .int .i64 n, .int .i64 ((4 - r : Nat) : Int), v, .int .i64 more] w (WithPost ok w r (n % 16 ^ (r + 1)) f o)
theorem mod_split (n r : Nat) : n % 16 ^ (r + 2) = n / 16 ^ (r + 1) % 16 * 16 ^ (r + 1) + n % 16 ^ (r + 1) := by
  rw [show 16 ^ (r + 2) = 16 ^ (r + 1) * 16 from Nat.pow_succ .., Nat.mod_mul, Nat.mul_comm (n / 16 ^ (r + 1) % 16)]
  omega
set_option maxHeartbeats 8000000 in
set_option maxRecDepth 100000 in
theorem with_leaf (n : Nat) (v : Value) (more : Int) (o : Option S40) (hn : n < 1048576) : RecOK 0 n v more o := by
  intro ok x f w hok hx hv hm
  obtain ⟨pv, rfl⟩ := hv.nv.ptr
  have hml : n % 16 ^ (0 + 1) < 16 ^ (0 + 1) := Nat.mod_lt _ (Nat.pow_pos (by decide))
  have HS := Aside0.mk (with_sum 0 (n % 16 ^ (0 + 1)) f o more hml (by omega) hm)
  have HV := Aside0.mk hv
  have HM := Aside0.mk hm
  have HOK := Aside0.mk hok
  have HL := Aside0.mk (And.intro hn hml)
  obtain ⟨D, hD⟩ : ∃ D : Int, D = ((4 - 0 : Nat) : Int) := ⟨_, rfl⟩
  rw [← hD]
  have HD := Aside0.mk hD
  obtain ⟨k, hk⟩ : ∃ k : Nat, k = n / 16 ^ (4 - (4 - 0)) % 16 := ⟨_, rfl⟩
  have hk16 : k < 16 := by rw [hk]; exact Nat.mod_lt _ (by decide)
  have HN := Aside0.mk (And.intro hk16 hk)
  have HP : Aside0 (∀ W : World, Calls Try.prog 100 #[.int .i64 n, .int .i64 D] W fun e w' => e = .returned (.int .i64 (k : Int)) ∧ Below W.heap.size W w') := ⟨fun W => by rw [hD, hk]; exact part_calls n (4 - 0) W hn (by omega)⟩
  clear hk hk16
  rcases hx.node with ⟨rfl, hnone⟩ | ⟨b, cs, rfl, ho, hB, hK⟩
  · have HX : Aside0 (∀ j, j < 16 ^ (0 + 1) → f j = none) := ⟨hnone⟩
    clear hx hv hm hnone hml hn hD hok
    go_enter Try.func82, Try.ntmps82
    go_upto_region 4 with (fail)
    have HW : Aside0 (Mid ok w (w.alloc (.cells zeros33 112)) 0 zeros33 (cnt (16 ^ (0 + 1)) f) f) := ⟨⟨blk_new _ _, zeros33_size, by rw [cnt_all_none _ _ HX.out]; exact zeros33_last, KF.zeros ok w 0 HX.out, below_alloc (Below.refl _ _) _⟩⟩
    change Code.wp _ _ _ _ (w.alloc (.cells zeros33 112))
    generalize w.alloc (.cells zeros33 112) = W at HW ⊢
    generalize zeros33 = cs at HW
    clear HX
    obtain ⟨c0, hc0⟩ : ∃ c, c = cnt (16 ^ (0 + 1)) f := ⟨_, rfl⟩
    obtain ⟨c1, hc1⟩ : ∃ c, c = cnt (16 ^ (0 + 1)) (upd f (n % 16 ^ (0 + 1)) o) := ⟨_, rfl⟩
    have HWS := Aside0.mk (HW.out.sized c1)
    have hs : wrap64 (c0 + more) = c1 := by rw [hc0, hc1]; exact HS.out
    have hl : W.cell? ⟨w.heap.size, 32, none⟩ = some (.int .i64 c0) := by rw [hc0]; exact (blk_cell HW.out.blk 32).trans HW.out.last
    have hf := blk_frozen HW.out.blk 32
    have HC := Aside0.mk hc1
    clear hc0 hc1
    go_upto_region 5 with (fail)
    generalize W.setCell ⟨w.heap.size, 32, none⟩ (.int .i64 c1) = W4 at HWS ⊢
    generalize cs.setIfInBounds 32 (.int .i64 c1) = cs4 at HWS
    clear hl hf HW hs
    have hl4 : W4.cell? ⟨w.heap.size, 32, none⟩ = some (.int .i64 c1) := (blk_cell HWS.out.blk 32).trans HWS.out.last
    by_cases z : c1 = 0
    · have z1 : (c1 == 0) = true := by simpa using z
      have d1 : decide (0 < D) = true := decide_eq_true (by have := HD.out; omega)
      have HZ := Aside0.mk z
      clear z
      go_wp2_with fail
      go_ret
      exact ⟨_, rfl, TF.nil 0 (cnt_none _ _ (by rw [← HC.out]; exact HZ.out)), fun h => absurd h (by decide), HWS.out.below⟩
    · have z1 : (c1 == 0) = false := by simpa using z
      clear z
      go_upto_region 8 with (first | (go_at_call 100; refine (HP.out _).mono ?_; rintro e w5 ⟨rfl, hbx⟩) | fail)
      have hk16 := HN.out.1
      have HBX := Aside0.mk hbx
      have HBL5 := Aside0.mk (blk_below HWS.out.blk hbx)
      have d4 : (D == 4) = true := by rw [HD.out]; rfl
      obtain ⟨_, u, hu, _⟩ := HWS.out.kids k hk16
      have hc := (blk_cell HBL5.out (16 + k)).trans hu
      have hf := blk_frozen HBL5.out (16 + k)
      have q0 : (0 ≤ (k : Int)) = True := eq_true (by omega)
      have q1 : ((k : Int) < 16) = True := eq_true (by omega)
      clear hk16 hbx hu
      go_wp2_with fail
      go_ret
      have hW5 : Mid ok w w5 0 cs4 c1 f := ⟨HBL5.out, HWS.out.size, HWS.out.last, HWS.out.kids, below_then HWS.out.below HWS.out.below.size HBX.out⟩
      have hkm : n % 16 ^ (0 + 1) = k := (by have e := HN.out.2; simp at e; rw [e]; first | done | rfl)
      refine ⟨_, rfl, ?_, fun h => absurd h (by decide), below_set hW5.below (Nat.le_refl _)⟩
      rw [hkm]
      exact hW5.leaf k HN.out.1 _ o HV.out (by rw [HC.out, hkm])
  · have HK := Aside0.mk hK
    have HB := Aside0.mk hB
    clear hx hv hm hml hn hB hK hD hok
    go_enter Try.func82, Try.ntmps82
    go_upto_region 3 with (fail)
    change Code.wp _ _ _ _ (w.alloc (.cells zeros33 112))
    have HLB : Aside0 ((w.alloc (.cells zeros33 112)).heap[b]? = some (.cells cs 112 (0, 0))) := ⟨blk_alloc HB.out.1 _⟩
    have HLW : Aside0 ((w.alloc (.cells zeros33 112)).heap[w.heap.size]? = some (.cells zeros33 112 (0, 0))) := ⟨blk_new _ _⟩
    have HL33 : Aside0 ((Try.prog.info? 112).map (·.size) = some cs.size) := ⟨by rw [HB.out.2.1]; kernel_rfl⟩
    have HALL : Aside0 (cs.all (·.oneCell') = true) := ⟨cells_one HB.out.2.1 HK.out.ptrs HB.out.2.2⟩
    have HBL : Aside0 (Below w.heap.size w ((w.alloc (.cells zeros33 112)).setRow w.heap.size cs)) := ⟨below_row (below_alloc (Below.refl _ _) _) (Nat.le_refl _)⟩
    generalize w.alloc (.cells zeros33 112) = W0 at HLB HLW HBL ⊢
    go_upto_region 4 with (first
      | ((with_reducible refine gate_dst (N := 17) rfl ?_); refine wpList_load_row rfl 112 (.tmp 16) rfl b rfl 112 cs (0, 0) _ HLB.out Try.underlying112 rfl HL33.out ?_)
      | ((with_reducible refine gate_store (t := 112) (p := 11) (v := .tmp 17) rfl ?_); refine wpList_store_row rfl 112 (.tmp 11) (.tmp 17) rfl w.heap.size cs rfl rfl 112 zeros33 HLW.out HL33.out (by rw [HB.out.2.1]; rfl) HALL.out ?_)
      | fail)
    have HW : Aside0 (Mid ok w (W0.setRow w.heap.size cs) 0 cs (cnt (16 ^ (0 + 1)) f) f) := ⟨⟨setRow_heap _ _ _ _ _ _ HLW.out, HB.out.2.1, HB.out.2.2, HK.out, HBL.out⟩⟩
    generalize W0.setRow w.heap.size cs = W at HW ⊢
    clear HLB HLW HL33 HALL HBL HB HK
    obtain ⟨c0, hc0⟩ : ∃ c, c = cnt (16 ^ (0 + 1)) f := ⟨_, rfl⟩
    obtain ⟨c1, hc1⟩ : ∃ c, c = cnt (16 ^ (0 + 1)) (upd f (n % 16 ^ (0 + 1)) o) := ⟨_, rfl⟩
    have HWS := Aside0.mk (HW.out.sized c1)
    have hs : wrap64 (c0 + more) = c1 := by rw [hc0, hc1]; exact HS.out
    have hl : W.cell? ⟨w.heap.size, 32, none⟩ = some (.int .i64 c0) := by rw [hc0]; exact (blk_cell HW.out.blk 32).trans HW.out.last
    have hf := blk_frozen HW.out.blk 32
    have HC := Aside0.mk hc1
    clear hc0 hc1
    go_upto_region 5 with (fail)
    generalize W.setCell ⟨w.heap.size, 32, none⟩ (.int .i64 c1) = W4 at HWS ⊢
    generalize cs.setIfInBounds 32 (.int .i64 c1) = cs4 at HWS
    clear hl hf HW hs
    have hl4 : W4.cell? ⟨w.heap.size, 32, none⟩ = some (.int .i64 c1) := (blk_cell HWS.out.blk 32).trans HWS.out.last
    by_cases z : c1 = 0
    · have z1 : (c1 == 0) = true := by simpa using z
      have d1 : decide (0 < D) = true := decide_eq_true (by have := HD.out; omega)
      have HZ := Aside0.mk z
      clear z
      go_wp2_with fail
      go_ret
      exact ⟨_, rfl, TF.nil 0 (cnt_none _ _ (by rw [← HC.out]; exact HZ.out)), fun h => absurd h (by decide), HWS.out.below⟩
    · have z1 : (c1 == 0) = false := by simpa using z
      clear z
      go_upto_region 8 with (first | (go_at_call 100; refine (HP.out _).mono ?_; rintro e w5 ⟨rfl, hbx⟩) | fail)
      have hk16 := HN.out.1
      have HBX := Aside0.mk hbx
      have HBL5 := Aside0.mk (blk_below HWS.out.blk hbx)
      have d4 : (D == 4) = true := by rw [HD.out]; rfl
      obtain ⟨_, u, hu, _⟩ := HWS.out.kids k hk16
      have hc := (blk_cell HBL5.out (16 + k)).trans hu
      have hf := blk_frozen HBL5.out (16 + k)
      have q0 : (0 ≤ (k : Int)) = True := eq_true (by omega)
      have q1 : ((k : Int) < 16) = True := eq_true (by omega)
      clear hk16 hbx hu
      go_wp2_with fail
      go_ret
      have hW5 : Mid ok w w5 0 cs4 c1 f := ⟨HBL5.out, HWS.out.size, HWS.out.last, HWS.out.kids, below_then HWS.out.below HWS.out.below.size HBX.out⟩
      have hkm : n % 16 ^ (0 + 1) = k := (by have e := HN.out.2; simp at e; rw [e]; first | done | rfl)
      refine ⟨_, rfl, ?_, fun h => absurd h (by decide), below_set hW5.below (Nat.le_refl _)⟩
      rw [hkm]
      exact hW5.leaf k HN.out.1 _ o HV.out (by rw [HC.out, hkm])
set_option maxHeartbeats 8000000 in
set_option maxRecDepth 100000 in
theorem with_node (r : Nat) (hr : r + 1 ≤ 4) (n : Nat) (v : Value) (more : Int) (o : Option S40) (hn : n < 1048576) (ih : RecOK r n v more o) : RecOK (r + 1) n v more o := by
  intro ok x f w hok hx hv hm
  obtain ⟨pv, rfl⟩ := hv.nv.ptr
  have hml : n % 16 ^ ((r + 1) + 1) < 16 ^ ((r + 1) + 1) := Nat.mod_lt _ (Nat.pow_pos (by decide))
  have HS := Aside0.mk (with_sum (r + 1) (n % 16 ^ ((r + 1) + 1)) f o more hml (by omega) hm)
  have HV := Aside0.mk hv
  have HM := Aside0.mk hm
  have HOK := Aside0.mk hok
  have HL := Aside0.mk (And.intro hn hml)
  have HI := Aside0.mk ih
  have HR := Aside0.mk hr
  obtain ⟨D, hD⟩ : ∃ D : Int, D = ((4 - (r + 1) : Nat) : Int) := ⟨_, rfl⟩
  rw [← hD]
  have HD := Aside0.mk hD
  obtain ⟨k, hk⟩ : ∃ k : Nat, k = n / 16 ^ (4 - (4 - (r + 1))) % 16 := ⟨_, rfl⟩
  have hk16 : k < 16 := by rw [hk]; exact Nat.mod_lt _ (by decide)
  have HN := Aside0.mk (And.intro hk16 hk)
  have HP : Aside0 (∀ W : World, Calls Try.prog 100 #[.int .i64 n, .int .i64 D] W fun e w' => e = .returned (.int .i64 (k : Int)) ∧ Below W.heap.size W w') := ⟨fun W => by rw [hD, hk]; exact part_calls n (4 - (r + 1)) W hn (by omega)⟩
  clear hk hk16
  rcases hx.node with ⟨rfl, hnone⟩ | ⟨b, cs, rfl, ho, hB, hK⟩
  · have HX : Aside0 (∀ j, j < 16 ^ ((r + 1) + 1) → f j = none) := ⟨hnone⟩
    clear hx hv hm hnone hml hn hD hok hr ih
    go_enter Try.func82, Try.ntmps82
    go_upto_region 4 with (fail)
    have HW : Aside0 (Mid ok w (w.alloc (.cells zeros33 112)) (r + 1) zeros33 (cnt (16 ^ ((r + 1) + 1)) f) f) := ⟨⟨blk_new _ _, zeros33_size, by rw [cnt_all_none _ _ HX.out]; exact zeros33_last, KF.zeros ok w (r + 1) HX.out, below_alloc (Below.refl _ _) _⟩⟩
    change Code.wp _ _ _ _ (w.alloc (.cells zeros33 112))
    generalize w.alloc (.cells zeros33 112) = W at HW ⊢
    generalize zeros33 = cs at HW
    clear HX
    obtain ⟨c0, hc0⟩ : ∃ c, c = cnt (16 ^ ((r + 1) + 1)) f := ⟨_, rfl⟩
    obtain ⟨c1, hc1⟩ : ∃ c, c = cnt (16 ^ ((r + 1) + 1)) (upd f (n % 16 ^ ((r + 1) + 1)) o) := ⟨_, rfl⟩
    have HWS := Aside0.mk (HW.out.sized c1)
    have hs : wrap64 (c0 + more) = c1 := by rw [hc0, hc1]; exact HS.out
    have hl : W.cell? ⟨w.heap.size, 32, none⟩ = some (.int .i64 c0) := by rw [hc0]; exact (blk_cell HW.out.blk 32).trans HW.out.last
    have hf := blk_frozen HW.out.blk 32
    have HC := Aside0.mk hc1
    clear hc0 hc1
    go_upto_region 5 with (fail)
    generalize W.setCell ⟨w.heap.size, 32, none⟩ (.int .i64 c1) = W4 at HWS ⊢
    generalize cs.setIfInBounds 32 (.int .i64 c1) = cs4 at HWS
    clear hl hf HW hs
    have hl4 : W4.cell? ⟨w.heap.size, 32, none⟩ = some (.int .i64 c1) := (blk_cell HWS.out.blk 32).trans HWS.out.last
    by_cases z : c1 = 0
    · have z1 : (c1 == 0) = true := by simpa using z
      by_cases y : r + 1 < 4
      · have d1 : decide (0 < D) = true := decide_eq_true (by have := HD.out; omega)
        have HZ := Aside0.mk z
        clear z
        go_wp2_with fail
        go_ret
        exact ⟨_, rfl, TF.nil (r + 1) (cnt_none _ _ (by rw [← HC.out]; exact HZ.out)), fun h => absurd h (by omega), HWS.out.below⟩
      · have d1 : decide (0 < D) = false := decide_eq_false (by have := HD.out; omega)
        clear z y
        go_upto_region 8 with (first | (go_at_call 100; refine (HP.out _).mono ?_; rintro e w5 ⟨rfl, hbx⟩) | fail)
        have hk16 := HN.out.1
        have HBX := Aside0.mk hbx
        have HBL5 := Aside0.mk (blk_below HWS.out.blk hbx)
        have d4 : (D == 4) = false := by have := HD.out; have := HR.out; rw [beq_eq_false_iff_ne]; omega
        obtain ⟨⟨u, hu, hTu⟩, _⟩ := HWS.out.kids k hk16
        obtain ⟨pu, rfl⟩ := (TF.tn r hTu).ptr
        have hc := (blk_cell HBL5.out k).trans hu
        have q0 : (0 ≤ (k : Int)) = True := eq_true (by omega)
        have q1 : ((k : Int) < 16) = True := eq_true (by omega)
        obtain ⟨D2, hD2⟩ : ∃ D2 : Int, D2 = ((4 - r : Nat) : Int) := ⟨_, rfl⟩
        have hw : wrap64 (D + 1) = D2 := by have := HD.out; have := HR.out; unfold wrap64; omega
        have hbw : Below w.heap.size w w5 := below_then HWS.out.below HWS.out.below.size hbx
        have hk2 : k = n / 16 ^ (r + 1) % 16 := by have e := HN.out.2; rwa [show 4 - (4 - (r + 1)) = r + 1 by have := HR.out; omega] at e
        have hsplit : n % 16 ^ (r + 2) = k * 16 ^ (r + 1) + n % 16 ^ (r + 1) := by rw [hk2]; exact mod_split n r
        have HSP := Aside0.mk hsplit
        have HREC : Aside0 (Calls Try.prog 82 #[.pointer pu, .int .i64 n, .int .i64 D2, .pointer pv, .int .i64 more] w5 (WithPost ok w5 r (n % 16 ^ (r + 1)) (fun j => f (k * 16 ^ (r + 1) + j)) o)) := ⟨by
          rw [hD2]
          refine HI.out ok _ _ w5 (fun b hb => Nat.lt_of_lt_of_le (HOK.out b hb) hbw.size) (TF.step (old_same hbw ok) (fun _ h => h) r hTu) (HV.out.step (old_same hbw ok) (fun _ h => h)) ?_
          rw [HM.out, hsplit]⟩
        have HU := Aside0.mk hu
        clear hk16 hbx hu hTu hbw hk2 hD2 hsplit
        go_wp2_with (first | (go_at_call 82; refine HREC.out.mono ?_; rintro e w6 ⟨v', rfl, hT, _, hb6⟩; obtain ⟨pv', rfl⟩ := (TF.tn r hT).ptr; have hc6 := (blk_cell (blk_below HBL5.out hb6) k).trans HU.out; have hf6 := blk_frozen (blk_below HBL5.out hb6) k; have HT6 := Aside0.mk hT; have HB6 := Aside0.mk hb6; clear hT hb6) | fail)
        go_ret
        have hW5 : Mid ok w w5 (r + 1) cs4 c1 f := ⟨HBL5.out, HWS.out.size, HWS.out.last, HWS.out.kids, below_then HWS.out.below HWS.out.below.size HBX.out⟩
        refine ⟨_, rfl, ?_, fun h => by simp, below_set (below_then hW5.below hW5.below.size HB6.out) (Nat.le_refl _)⟩
        rw [show r + 1 + 1 = r + 2 from rfl, HSP.out]
        exact hW5.node HOK.out HB6.out k _ HN.out.1 (Nat.mod_lt _ (Nat.pow_pos (by decide))) _ o HT6.out (by rw [HC.out, ← HSP.out])
    · have z1 : (c1 == 0) = false := by simpa using z
      clear z
      go_upto_region 8 with (first | (go_at_call 100; refine (HP.out _).mono ?_; rintro e w5 ⟨rfl, hbx⟩) | fail)
      have hk16 := HN.out.1
      have HBX := Aside0.mk hbx
      have HBL5 := Aside0.mk (blk_below HWS.out.blk hbx)
      have d4 : (D == 4) = false := by have := HD.out; have := HR.out; rw [beq_eq_false_iff_ne]; omega
      obtain ⟨⟨u, hu, hTu⟩, _⟩ := HWS.out.kids k hk16
      obtain ⟨pu, rfl⟩ := (TF.tn r hTu).ptr
      have hc := (blk_cell HBL5.out k).trans hu
      have q0 : (0 ≤ (k : Int)) = True := eq_true (by omega)
      have q1 : ((k : Int) < 16) = True := eq_true (by omega)
      obtain ⟨D2, hD2⟩ : ∃ D2 : Int, D2 = ((4 - r : Nat) : Int) := ⟨_, rfl⟩
      have hw : wrap64 (D + 1) = D2 := by have := HD.out; have := HR.out; unfold wrap64; omega
      have hbw : Below w.heap.size w w5 := below_then HWS.out.below HWS.out.below.size hbx
      have hk2 : k = n / 16 ^ (r + 1) % 16 := by have e := HN.out.2; rwa [show 4 - (4 - (r + 1)) = r + 1 by have := HR.out; omega] at e
      have hsplit : n % 16 ^ (r + 2) = k * 16 ^ (r + 1) + n % 16 ^ (r + 1) := by rw [hk2]; exact mod_split n r
      have HSP := Aside0.mk hsplit
      have HREC : Aside0 (Calls Try.prog 82 #[.pointer pu, .int .i64 n, .int .i64 D2, .pointer pv, .int .i64 more] w5 (WithPost ok w5 r (n % 16 ^ (r + 1)) (fun j => f (k * 16 ^ (r + 1) + j)) o)) := ⟨by
        rw [hD2]
        refine HI.out ok _ _ w5 (fun b hb => Nat.lt_of_lt_of_le (HOK.out b hb) hbw.size) (TF.step (old_same hbw ok) (fun _ h => h) r hTu) (HV.out.step (old_same hbw ok) (fun _ h => h)) ?_
        rw [HM.out, hsplit]⟩
      have HU := Aside0.mk hu
      clear hk16 hbx hu hTu hbw hk2 hD2 hsplit
      go_wp2_with (first | (go_at_call 82; refine HREC.out.mono ?_; rintro e w6 ⟨v', rfl, hT, _, hb6⟩; obtain ⟨pv', rfl⟩ := (TF.tn r hT).ptr; have hc6 := (blk_cell (blk_below HBL5.out hb6) k).trans HU.out; have hf6 := blk_frozen (blk_below HBL5.out hb6) k; have HT6 := Aside0.mk hT; have HB6 := Aside0.mk hb6; clear hT hb6) | fail)
      go_ret
      have hW5 : Mid ok w w5 (r + 1) cs4 c1 f := ⟨HBL5.out, HWS.out.size, HWS.out.last, HWS.out.kids, below_then HWS.out.below HWS.out.below.size HBX.out⟩
      refine ⟨_, rfl, ?_, fun h => by simp, below_set (below_then hW5.below hW5.below.size HB6.out) (Nat.le_refl _)⟩
      rw [show r + 1 + 1 = r + 2 from rfl, HSP.out]
      exact hW5.node HOK.out HB6.out k _ HN.out.1 (Nat.mod_lt _ (Nat.pow_pos (by decide))) _ o HT6.out (by rw [HC.out, ← HSP.out])
  · have HK := Aside0.mk hK
    have HB := Aside0.mk hB
    clear hx hv hm hml hn hB hK hD hok hr ih
    go_enter Try.func82, Try.ntmps82
    go_upto_region 3 with (fail)
    change Code.wp _ _ _ _ (w.alloc (.cells zeros33 112))
    have HLB : Aside0 ((w.alloc (.cells zeros33 112)).heap[b]? = some (.cells cs 112 (0, 0))) := ⟨blk_alloc HB.out.1 _⟩
    have HLW : Aside0 ((w.alloc (.cells zeros33 112)).heap[w.heap.size]? = some (.cells zeros33 112 (0, 0))) := ⟨blk_new _ _⟩
    have HL33 : Aside0 ((Try.prog.info? 112).map (·.size) = some cs.size) := ⟨by rw [HB.out.2.1]; kernel_rfl⟩
    have HALL : Aside0 (cs.all (·.oneCell') = true) := ⟨cells_one HB.out.2.1 HK.out.ptrs HB.out.2.2⟩
    have HBL : Aside0 (Below w.heap.size w ((w.alloc (.cells zeros33 112)).setRow w.heap.size cs)) := ⟨below_row (below_alloc (Below.refl _ _) _) (Nat.le_refl _)⟩
    generalize w.alloc (.cells zeros33 112) = W0 at HLB HLW HBL ⊢
    go_upto_region 4 with (first
      | ((with_reducible refine gate_dst (N := 17) rfl ?_); refine wpList_load_row rfl 112 (.tmp 16) rfl b rfl 112 cs (0, 0) _ HLB.out Try.underlying112 rfl HL33.out ?_)
      | ((with_reducible refine gate_store (t := 112) (p := 11) (v := .tmp 17) rfl ?_); refine wpList_store_row rfl 112 (.tmp 11) (.tmp 17) rfl w.heap.size cs rfl rfl 112 zeros33 HLW.out HL33.out (by rw [HB.out.2.1]; rfl) HALL.out ?_)
      | fail)
    have HW : Aside0 (Mid ok w (W0.setRow w.heap.size cs) (r + 1) cs (cnt (16 ^ ((r + 1) + 1)) f) f) := ⟨⟨setRow_heap _ _ _ _ _ _ HLW.out, HB.out.2.1, HB.out.2.2, HK.out, HBL.out⟩⟩
    generalize W0.setRow w.heap.size cs = W at HW ⊢
    clear HLB HLW HL33 HALL HBL HB HK
    obtain ⟨c0, hc0⟩ : ∃ c, c = cnt (16 ^ ((r + 1) + 1)) f := ⟨_, rfl⟩
    obtain ⟨c1, hc1⟩ : ∃ c, c = cnt (16 ^ ((r + 1) + 1)) (upd f (n % 16 ^ ((r + 1) + 1)) o) := ⟨_, rfl⟩
    have HWS := Aside0.mk (HW.out.sized c1)
    have hs : wrap64 (c0 + more) = c1 := by rw [hc0, hc1]; exact HS.out
    have hl : W.cell? ⟨w.heap.size, 32, none⟩ = some (.int .i64 c0) := by rw [hc0]; exact (blk_cell HW.out.blk 32).trans HW.out.last
    have hf := blk_frozen HW.out.blk 32
    have HC := Aside0.mk hc1
    clear hc0 hc1
    go_upto_region 5 with (fail)
    generalize W.setCell ⟨w.heap.size, 32, none⟩ (.int .i64 c1) = W4 at HWS ⊢
    generalize cs.setIfInBounds 32 (.int .i64 c1) = cs4 at HWS
    clear hl hf HW hs
    have hl4 : W4.cell? ⟨w.heap.size, 32, none⟩ = some (.int .i64 c1) := (blk_cell HWS.out.blk 32).trans HWS.out.last
    by_cases z : c1 = 0
    · have z1 : (c1 == 0) = true := by simpa using z
      by_cases y : r + 1 < 4
      · have d1 : decide (0 < D) = true := decide_eq_true (by have := HD.out; omega)
        have HZ := Aside0.mk z
        clear z
        go_wp2_with fail
        go_ret
        exact ⟨_, rfl, TF.nil (r + 1) (cnt_none _ _ (by rw [← HC.out]; exact HZ.out)), fun h => absurd h (by omega), HWS.out.below⟩
      · have d1 : decide (0 < D) = false := decide_eq_false (by have := HD.out; omega)
        clear z y
        go_upto_region 8 with (first | (go_at_call 100; refine (HP.out _).mono ?_; rintro e w5 ⟨rfl, hbx⟩) | fail)
        have hk16 := HN.out.1
        have HBX := Aside0.mk hbx
        have HBL5 := Aside0.mk (blk_below HWS.out.blk hbx)
        have d4 : (D == 4) = false := by have := HD.out; have := HR.out; rw [beq_eq_false_iff_ne]; omega
        obtain ⟨⟨u, hu, hTu⟩, _⟩ := HWS.out.kids k hk16
        obtain ⟨pu, rfl⟩ := (TF.tn r hTu).ptr
        have hc := (blk_cell HBL5.out k).trans hu
        have q0 : (0 ≤ (k : Int)) = True := eq_true (by omega)
        have q1 : ((k : Int) < 16) = True := eq_true (by omega)
        obtain ⟨D2, hD2⟩ : ∃ D2 : Int, D2 = ((4 - r : Nat) : Int) := ⟨_, rfl⟩
        have hw : wrap64 (D + 1) = D2 := by have := HD.out; have := HR.out; unfold wrap64; omega
        have hbw : Below w.heap.size w w5 := below_then HWS.out.below HWS.out.below.size hbx
        have hk2 : k = n / 16 ^ (r + 1) % 16 := by have e := HN.out.2; rwa [show 4 - (4 - (r + 1)) = r + 1 by have := HR.out; omega] at e
        have hsplit : n % 16 ^ (r + 2) = k * 16 ^ (r + 1) + n % 16 ^ (r + 1) := by rw [hk2]; exact mod_split n r
        have HSP := Aside0.mk hsplit
        have HREC : Aside0 (Calls Try.prog 82 #[.pointer pu, .int .i64 n, .int .i64 D2, .pointer pv, .int .i64 more] w5 (WithPost ok w5 r (n % 16 ^ (r + 1)) (fun j => f (k * 16 ^ (r + 1) + j)) o)) := ⟨by
          rw [hD2]
          refine HI.out ok _ _ w5 (fun b hb => Nat.lt_of_lt_of_le (HOK.out b hb) hbw.size) (TF.step (old_same hbw ok) (fun _ h => h) r hTu) (HV.out.step (old_same hbw ok) (fun _ h => h)) ?_
          rw [HM.out, hsplit]⟩
        have HU := Aside0.mk hu
        clear hk16 hbx hu hTu hbw hk2 hD2 hsplit
        go_wp2_with (first | (go_at_call 82; refine HREC.out.mono ?_; rintro e w6 ⟨v', rfl, hT, _, hb6⟩; obtain ⟨pv', rfl⟩ := (TF.tn r hT).ptr; have hc6 := (blk_cell (blk_below HBL5.out hb6) k).trans HU.out; have hf6 := blk_frozen (blk_below HBL5.out hb6) k; have HT6 := Aside0.mk hT; have HB6 := Aside0.mk hb6; clear hT hb6) | fail)
        go_ret
        have hW5 : Mid ok w w5 (r + 1) cs4 c1 f := ⟨HBL5.out, HWS.out.size, HWS.out.last, HWS.out.kids, below_then HWS.out.below HWS.out.below.size HBX.out⟩
        refine ⟨_, rfl, ?_, fun h => by simp, below_set (below_then hW5.below hW5.below.size HB6.out) (Nat.le_refl _)⟩
        rw [show r + 1 + 1 = r + 2 from rfl, HSP.out]
        exact hW5.node HOK.out HB6.out k _ HN.out.1 (Nat.mod_lt _ (Nat.pow_pos (by decide))) _ o HT6.out (by rw [HC.out, ← HSP.out])
    · have z1 : (c1 == 0) = false := by simpa using z
      clear z
      go_upto_region 8 with (first | (go_at_call 100; refine (HP.out _).mono ?_; rintro e w5 ⟨rfl, hbx⟩) | fail)
      have hk16 := HN.out.1
      have HBX := Aside0.mk hbx
      have HBL5 := Aside0.mk (blk_below HWS.out.blk hbx)
      have d4 : (D == 4) = false := by have := HD.out; have := HR.out; rw [beq_eq_false_iff_ne]; omega
      obtain ⟨⟨u, hu, hTu⟩, _⟩ := HWS.out.kids k hk16
      obtain ⟨pu, rfl⟩ := (TF.tn r hTu).ptr
      have hc := (blk_cell HBL5.out k).trans hu
      have q0 : (0 ≤ (k : Int)) = True := eq_true (by omega)
      have q1 : ((k : Int) < 16) = True := eq_true (by omega)
      obtain ⟨D2, hD2⟩ : ∃ D2 : Int, D2 = ((4 - r : Nat) : Int) := ⟨_, rfl⟩
      have hw : wrap64 (D + 1) = D2 := by have := HD.out; have := HR.out; unfold wrap64; omega
      have hbw : Below w.heap.size w w5 := below_then HWS.out.below HWS.out.below.size hbx
      have hk2 : k = n / 16 ^ (r + 1) % 16 := by have e := HN.out.2; rwa [show 4 - (4 - (r + 1)) = r + 1 by have := HR.out; omega] at e
      have hsplit : n % 16 ^ (r + 2) = k * 16 ^ (r + 1) + n % 16 ^ (r + 1) := by rw [hk2]; exact mod_split n r
      have HSP := Aside0.mk hsplit
      have HREC : Aside0 (Calls Try.prog 82 #[.pointer pu, .int .i64 n, .int .i64 D2, .pointer pv, .int .i64 more] w5 (WithPost ok w5 r (n % 16 ^ (r + 1)) (fun j => f (k * 16 ^ (r + 1) + j)) o)) := ⟨by
        rw [hD2]
        refine HI.out ok _ _ w5 (fun b hb => Nat.lt_of_lt_of_le (HOK.out b hb) hbw.size) (TF.step (old_same hbw ok) (fun _ h => h) r hTu) (HV.out.step (old_same hbw ok) (fun _ h => h)) ?_
        rw [HM.out, hsplit]⟩
      have HU := Aside0.mk hu
      clear hk16 hbx hu hTu hbw hk2 hD2 hsplit
      go_wp2_with (first | (go_at_call 82; refine HREC.out.mono ?_; rintro e w6 ⟨v', rfl, hT, _, hb6⟩; obtain ⟨pv', rfl⟩ := (TF.tn r hT).ptr; have hc6 := (blk_cell (blk_below HBL5.out hb6) k).trans HU.out; have hf6 := blk_frozen (blk_below HBL5.out hb6) k; have HT6 := Aside0.mk hT; have HB6 := Aside0.mk hb6; clear hT hb6) | fail)
      go_ret
      have hW5 : Mid ok w w5 (r + 1) cs4 c1 f := ⟨HBL5.out, HWS.out.size, HWS.out.last, HWS.out.kids, below_then HWS.out.below HWS.out.below.size HBX.out⟩
      refine ⟨_, rfl, ?_, fun h => by simp, below_set (below_then hW5.below hW5.below.size HB6.out) (Nat.le_refl _)⟩
      rw [show r + 1 + 1 = r + 2 from rfl, HSP.out]
      exact hW5.node HOK.out HB6.out k _ HN.out.1 (Nat.mod_lt _ (Nat.pow_pos (by decide))) _ o HT6.out (by rw [HC.out, ← HSP.out])
theorem with_all (n : Nat) (v : Value) (more : Int) (o : Option S40) (hn : n < 1048576) : ∀ r, r ≤ 4 → RecOK r n v more o
  | 0, _ => with_leaf n v more o hn
  | r + 1, h => with_node r h n v more o hn (with_all n v more o hn r (by omega))
end Go.Proofs.Ytpnlbmeeihbjaaa.P
end
section
set_option linter.unusedVariables false
set_option linter.unusedSimpArgs false
namespace Go.Proofs.Ytpnlbmeeihbjaaa.P
open Go.RowKit Go.Proofs.YtpnlbmeeihbjaaaW.PrintWords Go.Proofs.YtpnlbmeeihbjaaaW.PrintLast Go.Proofs.YtpnlbmeeihbjaaaW.PrintMore
attribute [local go_sem] max2_int min2_int max_two min_two max_three min_three max_four min_four
set_option linter.unusedVariables false
set_option linter.unusedSimpArgs false
def TrieO (ok : Nat → Prop) (w : World) (v : Value) (f : Nat → Option S40) : Prop :=
  ∃ b p, v = .pointer (some ⟨b, 0, none⟩) ∧ ok b ∧ w.heap[b]? = some (.cells #[.pointer (some p)] 114 (0, 0)) ∧ TF ok 4 w (.pointer (some p)) f
def TrieF (w : World) (v : Value) (f : Nat → Option S40) : Prop := TrieO (fun k => k < w.heap.size) w v f
theorem TrieO.step {ok ok' : Nat → Prop} {w w1 : World} {v : Value} {f : Nat → Option S40} (h : TrieO ok w v f) (hs : ∀ k, ok k → k < w.heap.size → w1.heap[k]? = w.heap[k]?) (hk : ∀ k, ok k → ok' k) : TrieO ok' w1 v f := by
  obtain ⟨b, p, e, ho, hh, ht⟩ := h
  exact ⟨b, p, e, hk b ho, blk_step hs ho hh, TF.step hs hk 4 ht⟩
theorem TrieO.below {ok : Nat → Prop} {w w1 : World} {v : Value} {f : Nat → Option S40} (h : TrieO ok w v f) (hb : Below w.heap.size w w1) : TrieO ok w1 v f := h.step (fun k _ hk => hb.block k hk) (fun _ h => h)
theorem TrieF.below {w w1 : World} {v : Value} {f : Nat → Option S40} (h : TrieF w v f) (hb : Below w.heap.size w w1) : TrieF w1 v f :=
  TrieO.step h (fun k _ hk => hb.block k hk) (fun k hk => Nat.lt_of_lt_of_le hk hb.size)
theorem TrieO.trie {ok : Nat → Prop} {w : World} {v : Value} {f : Nat → Option S40} (h : TrieO ok w v f) : Trie w v f := by
  obtain ⟨b, p, e, ho, hh, ht⟩ := h
  exact ⟨b, _, e, hh, by simp, TF.tn 4 ht⟩
theorem TrieF.trie {w : World} {v : Value} {f : Nat → Option S40} (h : TrieF w v f) : Trie w v f := TrieO.trie h
def putF (f : Nat → Option S40) (n : Int) (o : Option S40) : Nat → Option S40 := if 0 ≤ n ∧ n < 1048576 then upd f n.toNat o else f
theorem k40_cells {w : World} {x : S40} {cs : Array Value} (h : k40.K w x cs.toList) : ∃ A3 c3 A4 c4, cs = #[.int .i64 x.f0, .string x.f1, .int .i64 x.f2, .slice A3 x.f3.length c3, .slice A4 x.f4.length c4] := by
  obtain ⟨A3, c3, A4, c4, hcs, _⟩ := k40_open h
  obtain ⟨l⟩ := cs
  simp only at hcs
  subst hcs
  exact ⟨A3, c3, A4, c4, rfl⟩
theorem NF.bound {ok : Nat → Prop} {w : World} {v : Value} {o : Option S40} (h : NF ok w v o) : NF (fun k => k < w.heap.size) w v o := by
  rcases h with h | ⟨b, x, cs, e1, e2, hb, hh, hK⟩
  · exact .inl h
  · exact .inr ⟨b, x, cs, e1, e2, blk_lt hh, hh, Kd.FK_mono (Kd.FK_bound hK) (fun k h => h.2)⟩
theorem TF.bound {ok : Nat → Prop} {w : World} : ∀ (r : Nat) {v : Value} {f : Nat → Option S40}, TF ok r w v f → TF (fun k => k < w.heap.size) r w v f
  | 0, v, f, h => by
    rcases h with h | ⟨b, cs, e, ho, hB, hc⟩
    · exact .inl h
    · exact .inr ⟨b, cs, e, blk_lt hB.1, hB, fun k hlt => ⟨(hc k hlt).1, let ⟨u, hu, hn⟩ := (hc k hlt).2; ⟨u, hu, hn.bound⟩⟩⟩
  | r + 1, v, f, h => by
    rcases h with h | ⟨b, cs, e, ho, hB, hc⟩
    · exact .inl h
    · exact .inr ⟨b, cs, e, blk_lt hB.1, hB, fun k hlt => ⟨let ⟨u, hu, hn⟩ := (hc k hlt).1; ⟨u, hu, TF.bound r hn⟩, (hc k hlt).2⟩⟩
theorem NF.boundO {ok : Nat → Prop} {w : World} {v : Value} {o : Option S40} (h : NF ok w v o) : NF (fun k => ok k ∧ k < w.heap.size) w v o := by
  rcases h with h | ⟨b, x, cs, e1, e2, hb, hh, hK⟩
  · exact .inl h
  · exact .inr ⟨b, x, cs, e1, e2, ⟨hb, blk_lt hh⟩, hh, Kd.FK_bound hK⟩
theorem TF.boundO {ok : Nat → Prop} {w : World} : ∀ (r : Nat) {v : Value} {f : Nat → Option S40}, TF ok r w v f → TF (fun k => ok k ∧ k < w.heap.size) r w v f
  | 0, v, f, h => by
    rcases h with h | ⟨b, cs, e, ho, hB, hc⟩
    · exact .inl h
    · exact .inr ⟨b, cs, e, ⟨ho, blk_lt hB.1⟩, hB, fun k hlt => ⟨(hc k hlt).1, let ⟨u, hu, hn⟩ := (hc k hlt).2; ⟨u, hu, hn.boundO⟩⟩⟩
  | r + 1, v, f, h => by
    rcases h with h | ⟨b, cs, e, ho, hB, hc⟩
    · exact .inl h
    · exact .inr ⟨b, cs, e, ⟨ho, blk_lt hB.1⟩, hB, fun k hlt => ⟨let ⟨u, hu, hn⟩ := (hc k hlt).1; ⟨u, hu, TF.boundO r hn⟩, (hc k hlt).2⟩⟩
theorem TrieO.bound {ok : Nat → Prop} {w : World} {v : Value} {f : Nat → Option S40} (h : TrieO ok w v f) : TrieF w v f := by
  obtain ⟨b, p, e, ho, hh, ht⟩ := h
  exact ⟨b, p, e, blk_lt hh, hh, TF.bound 4 ht⟩
theorem look_nat (f : Nat → Option S40) (m : Nat) (h : m < 1048576) : look f (m : Int) = f m := by unfold look; rw [if_pos (by omega)]; simp
def PutPost (ok : Nat → Prop) (w : World) (f : Nat → Option S40) : Ending → World → Prop := fun e w' => ∃ t', e = .returned t' ∧ TrieO ok w' t' f ∧ Below w.heap.size w w'
theorem mod5 (m : Nat) (h : m < 1048576) : m % 16 ^ (4 + 1) = m := Nat.mod_eq_of_lt (by simpa using h)
set_option maxHeartbeats 8000000 in
set_option maxRecDepth 100000 in
theorem put_O (ok : Nat → Prop) (n : Int) (t : Value) (f : Nat → Option S40) (x : S40) (cs : Array Value) (w : World) (hfresh : ∀ k, w.heap.size ≤ k → ok k) (h : TrieO ok w t f) (hK : Kd.FK k40 w ok x cs.toList) :
    Calls Try.prog 52 #[t, .int .i64 n, .agg cs] w (PutPost ok w (putF f n (some x))) := by
  have HTF := Aside0.mk h
  have HFR := Aside0.mk hfresh
  obtain ⟨b, p, rfl, ho, hb, hT⟩ := h
  obtain ⟨A3, c3, A4, c4, rfl⟩ := k40_cells (Kd.FK_now hK)
  clear hfresh
  have HB := Aside0.mk hb
  have HT := Aside0.mk hT
  have HK := Aside0.mk hK
  have hu114 := Try.underlying114
  have hu40 := Try.underlying40
  clear hb hT hK
  by_cases c0 : 0 ≤ n ∧ n < 1048576
  · obtain ⟨m, rfl⟩ : ∃ m : Nat, n = m := ⟨n.toNat, by omega⟩
    have hm : m < 1048576 := by omega
    have hput : putF f (m : Int) (some x) = upd f m (some x) := by unfold putF; rw [if_pos c0]; simp
    rw [hput]
    have d0 : decide ((m : Int) < 0) = false := decide_eq_false (by omega)
    have d1 : decide (1048576 ≤ (m : Int)) = false := decide_eq_false (by omega)
    have d2 : decide (1048576 ≤ m) = false := decide_eq_false (by omega)
    have HM := Aside0.mk hm
    clear c0 hm hput
    go_enter Try.func52, Try.ntmps52
    go_wp2_with fail
    have HG0 : Aside0 ((w.alloc (.cells #[.int .i64 x.f0, .string x.f1, .int .i64 x.f2, .slice A3 x.f3.length c3, .slice A4 x.f4.length c4] 40)).heap[w.heap.size]? = some (.cells #[.int .i64 x.f0, .string x.f1, .int .i64 x.f2, .slice A3 x.f3.length c3, .slice A4 x.f4.length c4] 40 (0, 0))) := ⟨blk_new _ _⟩
    have HB0 : Aside0 (Below w.heap.size w (w.alloc (.cells #[.int .i64 x.f0, .string x.f1, .int .i64 x.f2, .slice A3 x.f3.length c3, .slice A4 x.f4.length c4] 40))) := ⟨below_alloc (Below.refl _ _) _⟩
    generalize w.alloc (.cells #[.int .i64 x.f0, .string x.f1, .int .i64 x.f2, .slice A3 x.f3.length c3, .slice A4 x.f4.length c4] 40) = W0 at HG0 HB0 ⊢
    refine (made_calls b (.pointer (some p)) W0 p rfl (blk_below HB.out HB0.out)).mono ?_
    rintro e W1 ⟨rfl, hb1⟩
    have HB1 := Aside0.mk (below_then HB0.out HB0.out.size hb1)
    have HG1 := Aside0.mk (blk_below HG0.out hb1)
    clear hb1 HB0 HG0
    go_wp2_with fail
    refine (get_calls (m : Int) _ f W1 W1 (HTF.out.below HB1.out).trie (Below.refl _ _)).mono ?_
    rintro e W2 ⟨cs2, rfl, hK2, hb2⟩
    rw [look_nat f m HM.out] at hK2 ⊢
    obtain ⟨B3, d3, B4, d4, rfl⟩ := k40_cells hK2
    have HB2 := Aside0.mk (below_then HB1.out HB1.out.size hb2)
    have HG2 := Aside0.mk (blk_below HG1.out hb2)
    obtain ⟨y, hy⟩ : ∃ y, y = (f m).getD z40 := ⟨_, rfl⟩
    rw [← hy] at hK2 ⊢
    clear hb2 HB1 HG1 hK2 hy
    cases hfm : f m with
    | none =>
      have HF := Aside0.mk hfm
      clear hfm
      go_upto_region 7 with (fail)
      have HB3 : Aside0 (Below w.heap.size w (W2.alloc (.cells #[.int .i64 y.f0, .string y.f1, .int .i64 y.f2, .slice B3 y.f3.length d3, .slice B4 y.f4.length d4] 40))) := ⟨below_alloc HB2.out _⟩
      have HG3 : Aside0 ((W2.alloc (.cells #[.int .i64 y.f0, .string y.f1, .int .i64 y.f2, .slice B3 y.f3.length d3, .slice B4 y.f4.length d4] 40)).heap[w.heap.size]? = some (.cells #[.int .i64 x.f0, .string x.f1, .int .i64 x.f2, .slice A3 x.f3.length c3, .slice A4 x.f4.length c4] 40 (0, 0))) := ⟨blk_alloc HG2.out _⟩
      generalize W2.alloc (.cells #[.int .i64 y.f0, .string y.f1, .int .i64 y.f2, .slice B3 y.f3.length d3, .slice B4 y.f4.length d4] 40) = W3 at HB3 HG3 ⊢
      have hroot := blk_cell (blk_below HB.out HB3.out) 0
      have HREC : Aside0 (Calls Try.prog 82 #[.pointer (some p), .int .i64 (m : Int), .int .i64 0, .pointer (some ⟨w.heap.size, 0, none⟩), .int .i64 1] W3 (WithPost (fun k => ok k ∧ k < W3.heap.size) W3 4 m f (some x))) := ⟨by
        have h := with_all m (.pointer (some ⟨w.heap.size, 0, none⟩)) 1 (some x) HM.out 4 (Nat.le_refl _) (fun k => ok k ∧ k < W3.heap.size) (.pointer (some p)) f W3 (fun _ h => h.2) (TF.step (fun k hk hlt => HB3.out.block k hk.2) (fun k hk => ⟨hk.1, Nat.lt_of_lt_of_le hk.2 HB3.out.size⟩) 4 (TF.boundO 4 HT.out)) (.inr ⟨w.heap.size, x, _, rfl, rfl, ⟨HFR.out _ (Nat.le_refl _), blk_lt HG3.out⟩, HG3.out, Kd.FK_bound (Kd.FK_below HK.out HB3.out)⟩) (by rw [mod5 m HM.out, HF.out]; rfl)
        rw [mod5 m HM.out] at h
        exact h⟩
      go_wp2_with (first | (go_at_call 82; refine HREC.out.mono ?_; rintro e W4 ⟨v', rfl, hT4, hn4, hb4⟩; obtain ⟨q, rfl⟩ := (TF.tn 4 hT4).ptr; have HT4 := Aside0.mk hT4; have HN4 := Aside0.mk (hn4 rfl); have HB4 := Aside0.mk (below_then HB3.out HB3.out.size hb4); clear hT4 hn4 hb4) | fail)
      go_ret
      cases q with
      | none => exact absurd rfl HN4.out
      | some q =>
        refine ⟨_, rfl, ⟨W4.heap.size, q, rfl, HFR.out _ HB4.out.size, blk_new _ _, ?_⟩, below_alloc HB4.out _⟩
        exact TF.step (fun k _ hk => Below.heap_alloc W4 _ k hk) (fun k hk => hk.elim (fun h => h.1) (fun h => HFR.out k (Nat.le_trans HB3.out.size h))) 4 HT4.out
    | some z =>
      have HF := Aside0.mk hfm
      clear hfm
      go_upto_region 7 with (fail)
      have HB3 : Aside0 (Below w.heap.size w (W2.alloc (.cells #[.int .i64 y.f0, .string y.f1, .int .i64 y.f2, .slice B3 y.f3.length d3, .slice B4 y.f4.length d4] 40))) := ⟨below_alloc HB2.out _⟩
      have HG3 : Aside0 ((W2.alloc (.cells #[.int .i64 y.f0, .string y.f1, .int .i64 y.f2, .slice B3 y.f3.length d3, .slice B4 y.f4.length d4] 40)).heap[w.heap.size]? = some (.cells #[.int .i64 x.f0, .string x.f1, .int .i64 x.f2, .slice A3 x.f3.length c3, .slice A4 x.f4.length c4] 40 (0, 0))) := ⟨blk_alloc HG2.out _⟩
      generalize W2.alloc (.cells #[.int .i64 y.f0, .string y.f1, .int .i64 y.f2, .slice B3 y.f3.length d3, .slice B4 y.f4.length d4] 40) = W3 at HB3 HG3 ⊢
      have hroot := blk_cell (blk_below HB.out HB3.out) 0
      have HREC : Aside0 (Calls Try.prog 82 #[.pointer (some p), .int .i64 (m : Int), .int .i64 0, .pointer (some ⟨w.heap.size, 0, none⟩), .int .i64 0] W3 (WithPost (fun k => ok k ∧ k < W3.heap.size) W3 4 m f (some x))) := ⟨by
        have h := with_all m (.pointer (some ⟨w.heap.size, 0, none⟩)) 0 (some x) HM.out 4 (Nat.le_refl _) (fun k => ok k ∧ k < W3.heap.size) (.pointer (some p)) f W3 (fun _ h => h.2) (TF.step (fun k hk hlt => HB3.out.block k hk.2) (fun k hk => ⟨hk.1, Nat.lt_of_lt_of_le hk.2 HB3.out.size⟩) 4 (TF.boundO 4 HT.out)) (.inr ⟨w.heap.size, x, _, rfl, rfl, ⟨HFR.out _ (Nat.le_refl _), blk_lt HG3.out⟩, HG3.out, Kd.FK_bound (Kd.FK_below HK.out HB3.out)⟩) (by rw [mod5 m HM.out, HF.out]; rfl)
        rw [mod5 m HM.out] at h
        exact h⟩
      go_wp2_with (first | (go_at_call 82; refine HREC.out.mono ?_; rintro e W4 ⟨v', rfl, hT4, hn4, hb4⟩; obtain ⟨q, rfl⟩ := (TF.tn 4 hT4).ptr; have HT4 := Aside0.mk hT4; have HN4 := Aside0.mk (hn4 rfl); have HB4 := Aside0.mk (below_then HB3.out HB3.out.size hb4); clear hT4 hn4 hb4) | fail)
      go_ret
      cases q with
      | none => exact absurd rfl HN4.out
      | some q =>
        refine ⟨_, rfl, ⟨W4.heap.size, q, rfl, HFR.out _ HB4.out.size, blk_new _ _, ?_⟩, below_alloc HB4.out _⟩
        exact TF.step (fun k _ hk => Below.heap_alloc W4 _ k hk) (fun k hk => hk.elim (fun h => h.1) (fun h => HFR.out k (Nat.le_trans HB3.out.size h))) 4 HT4.out
  · have hput : putF f n (some x) = f := by unfold putF; rw [if_neg c0]
    rw [hput]
    by_cases c1 : n < 0
    · have d0 : decide (n < 0) = true := decide_eq_true c1
      clear c0 hput
      go_enter Try.func52, Try.ntmps52
      go_wp2_with fail
      have HB0 : Aside0 (Below w.heap.size w (w.alloc (.cells #[.int .i64 x.f0, .string x.f1, .int .i64 x.f2, .slice A3 x.f3.length c3, .slice A4 x.f4.length c4] 40))) := ⟨below_alloc (Below.refl _ _) _⟩
      generalize w.alloc (.cells #[.int .i64 x.f0, .string x.f1, .int .i64 x.f2, .slice A3 x.f3.length c3, .slice A4 x.f4.length c4] 40) = W0 at HB0 ⊢
      refine (made_calls b (.pointer (some p)) W0 p rfl (blk_below HB.out HB0.out)).mono ?_
      rintro e W1 ⟨rfl, hb1⟩
      have HB1 := Aside0.mk (below_then HB0.out HB0.out.size hb1)
      clear hb1 HB0
      go_wp2_with fail
      go_ret
      exact ⟨_, rfl, HTF.out.below HB1.out, HB1.out⟩
    · have d0 : decide (n < 0) = false := decide_eq_false c1
      have d1 : decide (1048576 ≤ n) = true := decide_eq_true (by omega)
      clear c0 hput
      go_enter Try.func52, Try.ntmps52
      go_wp2_with fail
      have HB0 : Aside0 (Below w.heap.size w (w.alloc (.cells #[.int .i64 x.f0, .string x.f1, .int .i64 x.f2, .slice A3 x.f3.length c3, .slice A4 x.f4.length c4] 40))) := ⟨below_alloc (Below.refl _ _) _⟩
      generalize w.alloc (.cells #[.int .i64 x.f0, .string x.f1, .int .i64 x.f2, .slice A3 x.f3.length c3, .slice A4 x.f4.length c4] 40) = W0 at HB0 ⊢
      refine (made_calls b (.pointer (some p)) W0 p rfl (blk_below HB.out HB0.out)).mono ?_
      rintro e W1 ⟨rfl, hb1⟩
      have HB1 := Aside0.mk (below_then HB0.out HB0.out.size hb1)
      clear hb1 HB0
      go_wp2_with fail
      go_ret
      exact ⟨_, rfl, HTF.out.below HB1.out, HB1.out⟩
theorem len_calls (t : Value) (f : Nat → Option S40) (w : World) (h : TrieF w t f) :
    Calls Try.prog 49 #[t] w fun e w' => e = .returned (.int .i64 (cnt 1048576 f)) ∧ Below w.heap.size w w' := by
  obtain ⟨b, p, rfl, _, hb, hT⟩ := h
  have hu114 := Try.underlying114
  rcases hT.node with ⟨e, _⟩ | ⟨g, cs, e, _, hB, _⟩
  · cases e
  · injection e with e
    injection e with e
    subst e
    have HB := Aside0.mk hb
    have HN := Aside0.mk hB
    clear hB hT hb
    go_enter Try.func49, Try.ntmps49
    go_wp2_with fail
    refine (made_calls b _ w _ rfl HB.out).mono ?_
    rintro e W1 ⟨rfl, hb1⟩
    have hroot := (blk_cell (blk_below HB.out hb1) 0).trans (show _ = some (.pointer (some ⟨g, 0, none⟩)) from rfl)
    have hlast := (blk_cell (blk_below HN.out.1 hb1) 32).trans HN.out.2.2
    have HB1 := Aside0.mk hb1
    clear hb1
    obtain ⟨c, hc⟩ : ∃ c, c = cnt (16 ^ (4 + 1)) f := ⟨_, rfl⟩
    rw [← hc] at hlast
    have HC := Aside0.mk hc
    clear hc
    go_wp2_with fail
    go_ret
    exact ⟨by rw [HC.out]; rfl, HB1.out⟩
end Go.Proofs.Ytpnlbmeeihbjaaa.P
end
section
set_option linter.unusedVariables false
set_option linter.unusedSimpArgs false
namespace Go.Proofs.Ytpnlbmeeihbjaaa.P
open Go.RowKit Go.Proofs.YtpnlbmeeihbjaaaW.PrintWords Go.Proofs.YtpnlbmeeihbjaaaW.PrintLast Go.Proofs.YtpnlbmeeihbjaaaW.PrintMore
attribute [local go_sem] max2_int min2_int max_two min_two max_three min_three max_four min_four
set_option linter.unusedVariables false
set_option linter.unusedSimpArgs false
def DocF (w : World) (v : Value) (f : Nat → Option S40) (next : Int) : Prop :=
  ∃ b t, v = .pointer (some ⟨b, 0, none⟩) ∧ w.heap[b]? = some (.cells #[.pointer (some t), .int .i64 next] 76 (0, 0)) ∧ TrieF w (.pointer (some t)) f
theorem TrieF.ptr {w : World} {v : Value} {f : Nat → Option S40} (h : TrieF w v f) : ∃ p, v = .pointer (some p) := by
  obtain ⟨b, p, e, _⟩ := h
  exact ⟨_, e⟩
theorem DocF.below {w w1 : World} {v : Value} {f : Nat → Option S40} {next : Int} (h : DocF w v f next) (hb : Below w.heap.size w w1) : DocF w1 v f next := by
  obtain ⟨b, t, e, hh, ht⟩ := h
  exact ⟨b, t, e, blk_below hh hb, ht.below hb⟩
theorem dmade_calls (v : Value) (f : Nat → Option S40) (next : Int) (w : World) (h : DocF w v f next) :
    Calls Try.prog 48 #[v] w fun e w' => e = .returned (.bool true) ∧ Below w.heap.size w w' := by
  obtain ⟨b, t, rfl, hb, _⟩ := h
  have hu76 := Try.underlying76
  have hc := (blk_cell hb 0).trans (show _ = some (.pointer (some t)) from rfl)
  clear hb
  go_enter Try.func48, Try.ntmps48
  go_wp2_with fail
  go_ret
  exact ⟨rfl, Below.refl _ _⟩
theorem dlen_calls (v : Value) (f : Nat → Option S40) (next : Int) (w : World) (h : DocF w v f next) :
    Calls Try.prog 29 #[v] w fun e w' => e = .returned (.int .i64 (cnt 1048576 f)) ∧ Below w.heap.size w w' := by
  have HD := Aside0.mk h
  obtain ⟨b, t, rfl, hb, ht⟩ := h
  have HB := Aside0.mk hb
  have HT := Aside0.mk ht
  have hu76 := Try.underlying76
  clear hb ht
  go_enter Try.func29, Try.ntmps29
  go_wp2_with (first
    | (go_at_call 48; refine (dmade_calls _ f next _ HD.out).mono ?_; rintro e W1 ⟨rfl, hb1⟩; have hc := (blk_cell (blk_below HB.out hb1) 0).trans (show _ = some (.pointer (some t)) from rfl); have HB1 := Aside0.mk hb1; clear hb1)
    | (go_at_call 49; refine (len_calls _ f _ (HT.out.below HB1.out)).mono ?_; rintro e W2 ⟨rfl, hb2⟩; have HB2 := Aside0.mk (below_then HB1.out HB1.out.size hb2); clear hb2)
    | fail)
  go_ret
  exact ⟨rfl, HB2.out⟩
set_option maxHeartbeats 8000000 in
set_option maxRecDepth 100000 in
theorem node_calls (v : Value) (f : Nat → Option S40) (next : Int) (n : Int) (w0 w : World) (h : DocF w0 v f next) (hbw : Below w0.heap.size w0 w) :
    Calls Try.prog 41 #[v, .int .i64 n] w (GetPost w0 w (look f n)) := by
  have HD := Aside0.mk (h.below hbw)
  obtain ⟨b, t, rfl, hb, ht⟩ := h
  have HB := Aside0.mk (blk_below hb hbw)
  have HT := Aside0.mk ht
  have HBW := Aside0.mk hbw
  have hu76 := Try.underlying76
  have hu40 := Try.underlying40
  clear hb ht hbw
  go_enter Try.func41, Try.ntmps41
  go_wp2_with fail
  have HG0 : Aside0 ((w.alloc (.cells #[.int .i64 0, .string ⟨#[]⟩, .int .i64 0, .slice none 0 0, .slice none 0 0] 40)).heap[w.heap.size]? = some (.cells #[.int .i64 0, .string ⟨#[]⟩, .int .i64 0, .slice none 0 0, .slice none 0 0] 40 (0, 0))) := ⟨blk_new _ _⟩
  have HB0 : Aside0 (Below w.heap.size w (w.alloc (.cells #[.int .i64 0, .string ⟨#[]⟩, .int .i64 0, .slice none 0 0, .slice none 0 0] 40))) := ⟨below_alloc (Below.refl _ _) _⟩
  generalize w.alloc (.cells #[.int .i64 0, .string ⟨#[]⟩, .int .i64 0, .slice none 0 0, .slice none 0 0] 40) = W0 at HG0 HB0 ⊢
  refine (dmade_calls _ f next W0 (HD.out.below HB0.out)).mono ?_
  rintro e W1 ⟨rfl, hb1⟩
  have HB1 := Aside0.mk (below_then HB0.out HB0.out.size hb1)
  have HG1 := Aside0.mk (blk_below HG0.out hb1)
  have hc := (blk_cell (blk_below HB.out HB1.out) 0).trans (show _ = some (.pointer (some t)) from rfl)
  clear hb1 HB0 HG0
  go_wp2_with fail
  refine (get_calls n _ f w0 W1 HT.out.trie (below_then HBW.out HBW.out.size HB1.out)).mono ?_
  rintro e W2 ⟨cs2, rfl, hK2, hb2⟩
  have HG2 := Aside0.mk (blk_below HG1.out hb2)
  have HB2 := Aside0.mk (below_then HB1.out HB1.out.size hb2)
  obtain ⟨y, hy⟩ : ∃ y, y = (look f n).getD z40 := ⟨_, rfl⟩
  rw [← hy] at hK2
  obtain ⟨A3, c3, A4, c4, rfl⟩ := k40_cells hK2
  have HY := Aside0.mk hy
  have HK := Aside0.mk hK2
  have c40 := (blk_cell HG2.out 0).trans (show _ = some _ from rfl)
  have y40 := blk_frozen HG2.out 0
  have c41 := (blk_cell HG2.out 1).trans (show _ = some _ from rfl)
  have y41 := blk_frozen HG2.out 1
  have c42 := (blk_cell HG2.out 2).trans (show _ = some _ from rfl)
  have y42 := blk_frozen HG2.out 2
  have c43 := (blk_cell HG2.out 3).trans (show _ = some _ from rfl)
  have y43 := blk_frozen HG2.out 3
  have c44 := (blk_cell HG2.out 4).trans (show _ = some _ from rfl)
  have y44 := blk_frozen HG2.out 4
  clear hb2 hy hK2 HG1 HB1
  go_wp2_with fail
  refine bodyPost_ret (results_ct rfl _ _ (w.heap.size) 40 #[.int .i64 y.f0, .string y.f1, .int .i64 y.f2, .slice A3 y.f3.length c3, .slice A4 y.f4.length c4] (0, 0) _ rfl (by
    refine blk_put (cs := #[.int .i64 y.f0, .string y.f1, .int .i64 y.f2, .slice A3 y.f3.length c3, .slice none 0 0]) ?_ 4 _ rfl
    refine blk_put (cs := #[.int .i64 y.f0, .string y.f1, .int .i64 y.f2, .slice none 0 0, .slice none 0 0]) ?_ 3 _ rfl
    refine blk_put (cs := #[.int .i64 y.f0, .string y.f1, .int .i64 0, .slice none 0 0, .slice none 0 0]) ?_ 2 _ rfl
    refine blk_put (cs := #[.int .i64 y.f0, .string ⟨#[]⟩, .int .i64 0, .slice none 0 0, .slice none 0 0]) ?_ 1 _ rfl
    refine blk_put (cs := #[.int .i64 0, .string ⟨#[]⟩, .int .i64 0, .slice none 0 0, .slice none 0 0]) ?_ 0 _ rfl
    exact HG2.out) hu40 rfl (by kernel_rfl)) rfl ?_
  exact ⟨_, rfl, HY.out ▸ HK.out, (below_set (below_set (below_set (below_set (below_set HB2.out (by omega)) (by omega)) (by omega)) (by omega)) (by omega))⟩
end Go.Proofs.Ytpnlbmeeihbjaaa.P
end
section
set_option linter.unusedVariables false
set_option linter.unusedSimpArgs false
namespace Go.Proofs.Ytpnlbmeeihbjaaa.P
open Go.RowKit Go.Proofs.YtpnlbmeeihbjaaaW.PrintWords Go.Proofs.YtpnlbmeeihbjaaaW.PrintLast Go.Proofs.YtpnlbmeeihbjaaaW.PrintMore
attribute [local go_sem] max2_int min2_int max_two min_two max_three min_three max_four min_four
set_option linter.unusedVariables false
set_option linter.unusedSimpArgs false
theorem set5_other (W : World) (g : Nat) (a b c d e : Value) (k : Nat) (h : k ≠ g) : (((((W.setCell ⟨g, 0, none⟩ a).setCell ⟨g, 1, none⟩ b).setCell ⟨g, 2, none⟩ c).setCell ⟨g, 3, none⟩ d).setCell ⟨g, 4, none⟩ e).heap[k]? = W.heap[k]? := by
  rw [heap_setCell_other _ _ _ _ h, heap_setCell_other _ _ _ _ h, heap_setCell_other _ _ _ _ h, heap_setCell_other _ _ _ _ h, heap_setCell_other _ _ _ _ h]
theorem k40_types : ∀ q, q ∈ k40.E → q ≠ 40 := by decide
def CopyPost (w : World) (o : Option S40) : Ending → World → Prop := fun e w' => ∃ cs : Array Value, e = .returned (.tuple #[.agg cs, .bool o.isSome]) ∧ k40.M w' w.heap.size (fun _ => True) (o.getD z40) cs.toList ∧ Below w.heap.size w w'
set_option maxHeartbeats 8000000 in
set_option maxRecDepth 100000 in
theorem copy_gen (v : Value) (n : Int) (o : Option S40) (w0 w : World) (hbw : Below w0.heap.size w0 w) (h : ∀ W : World, Below w.heap.size w W → Calls Try.prog 41 #[v, .int .i64 n] W (GetPost w0 W o)) (h3 : (o.getD z40).f3.length ≤ 1099511627776) (h4 : (o.getD z40).f4.length ≤ 1099511627776) :
    Calls Try.prog 20 #[v, .int .i64 n] w (CopyPost w o) := by
  have HD := Aside0.mk h
  have HBW := Aside0.mk hbw
  have HL := Aside0.mk (And.intro h3 h4)
  have hu40 := Try.underlying40
  clear h hbw h3 h4
  go_enter Try.func20, Try.ntmps20
  go_wp2_with fail
  have HG0 : Aside0 ((w.alloc (.cells #[.int .i64 0, .string ⟨#[]⟩, .int .i64 0, .slice none 0 0, .slice none 0 0] 40)).heap[w.heap.size]? = some (.cells #[.int .i64 0, .string ⟨#[]⟩, .int .i64 0, .slice none 0 0, .slice none 0 0] 40 (0, 0))) := ⟨blk_new _ _⟩
  have HB0 : Aside0 (Below w.heap.size w (w.alloc (.cells #[.int .i64 0, .string ⟨#[]⟩, .int .i64 0, .slice none 0 0, .slice none 0 0] 40))) := ⟨below_alloc (Below.refl _ _) _⟩
  generalize w.alloc (.cells #[.int .i64 0, .string ⟨#[]⟩, .int .i64 0, .slice none 0 0, .slice none 0 0] 40) = W0 at HG0 HB0 ⊢
  refine (HD.out W0 HB0.out).mono ?_
  rintro e W1 ⟨cs, rfl, hK, hb1⟩
  obtain ⟨y, hy⟩ : ∃ y, y = o.getD z40 := ⟨_, rfl⟩
  rw [← hy] at hK HL
  obtain ⟨A3, c3, A4, c4, rfl⟩ := k40_cells hK
  obtain ⟨A3', c3', A4', c4', hcs, hl3, hC3, hl4, hC4⟩ := k40_open hK
  simp only [List.cons.injEq, Value.slice.injEq, and_true, true_and] at hcs
  obtain ⟨⟨rfl, rfl⟩, ⟨rfl, rfl⟩⟩ := hcs
  have HY := Aside0.mk hy
  have HC := Aside0.mk (And.intro hl3 (And.intro hC3 (And.intro hl4 hC4)))
  have HB1 := Aside0.mk (below_then HB0.out HB0.out.size hb1)
  have HG1 := Aside0.mk (blk_below HG0.out hb1)
  clear hK hy hl3 hC3 hl4 hC4 hb1 HB0 HG0
  go_upto_region 2 with (fail)
  have HG2 : Aside0 ((W1.alloc (.cells #[.int .i64 y.f0, .string y.f1, .int .i64 y.f2, .slice A3 y.f3.length c3, .slice A4 y.f4.length c4] 40)).heap[W1.heap.size]? = some (.cells #[.int .i64 y.f0, .string y.f1, .int .i64 y.f2, .slice A3 y.f3.length c3, .slice A4 y.f4.length c4] 40 (0, 0))) := ⟨blk_new _ _⟩
  have HG4 : Aside0 ((W1.alloc (.cells #[.int .i64 y.f0, .string y.f1, .int .i64 y.f2, .slice A3 y.f3.length c3, .slice A4 y.f4.length c4] 40)).heap[w.heap.size]? = some (.cells #[.int .i64 0, .string ⟨#[]⟩, .int .i64 0, .slice none 0 0, .slice none 0 0] 40 (0, 0))) := ⟨blk_alloc HG1.out _⟩
  have HB2 : Aside0 (Below w.heap.size w (W1.alloc (.cells #[.int .i64 y.f0, .string y.f1, .int .i64 y.f2, .slice A3 y.f3.length c3, .slice A4 y.f4.length c4] 40))) := ⟨below_alloc HB1.out _⟩
  have HS2 : Aside0 (w.heap.size < W1.heap.size) := ⟨blk_lt HG1.out⟩
  obtain ⟨g6, hg6⟩ : ∃ g, g = W1.heap.size := ⟨_, rfl⟩
  rw [← hg6] at HG2 HS2 ⊢
  generalize W1.alloc (.cells #[.int .i64 y.f0, .string y.f1, .int .i64 y.f2, .slice A3 y.f3.length c3, .slice A4 y.f4.length c4] 40) = W2 at HG2 HG4 HB2 ⊢
  clear hg6
  have q3 := (blk_cell HG2.out 3).trans (show _ = some _ from rfl)
  have q4 := (blk_cell HG2.out 4).trans (show _ = some _ from rfl)
  have p3 := blk_frozen HG2.out 3
  have p4 := blk_frozen HG2.out 4
  have HC3 : Aside0 (∀ W : World, Below W2.heap.size W2 W → Calls Try.prog 42 #[.slice A3 y.f3.length c3] W fun e w' => ∃ v, e = .returned v ∧ Kd.R (Kd.int .i64) 3 w' W.heap.size (fun _ => True) v y.f3 ∧ Below W.heap.size W w') := ⟨fun W hW => clone_calls y.f3 A3 c3 W (Kd.C_below HC.out.2.1 (below_then HBW.out HBW.out.size (below_then HB2.out HB2.out.size hW))) HC.out.1 HL.out.1⟩
  have HC4 : Aside0 (∀ W : World, Below W2.heap.size W2 W → Calls Try.prog 43 #[.slice A4 y.f4.length c4] W fun e w' => ∃ v, e = .returned v ∧ Kd.R k70 70 w' W.heap.size (fun _ => True) v y.f4 ∧ Below W.heap.size W w') := ⟨fun W hW => cloneA_calls y.f4 A4 c4 W (Kd.C_below HC.out.2.2.2 (below_then HBW.out HBW.out.size (below_then HB2.out HB2.out.size hW))) HC.out.2.2.1 HL.out.2⟩
  go_region_with (first
    | (go_at_call 42; (with_reducible refine (HC3.out _ (by repeat (first | exact Below.refl _ _ | apply below_drew1 | apply pw_below_drewN))).mono ?_); rintro e w3 ⟨v3, rfl, hR3, hx3⟩; obtain ⟨B3, d3, rfl⟩ := Kd.R_slice hR3; have HX3 := Aside0.mk (show Below W2.heap.size W2 w3 from ⟨hx3.os, hx3.tape, hx3.output, hx3.size, hx3.block⟩); have HR3 := Aside0.mk hR3; clear hx3 hR3; have r3 := pw_cell_below HX3.out q3; have r4 := pw_cell_below HX3.out q4; have s3 := blk_frozen (blk_below HG2.out HX3.out) 3; have s4 := blk_frozen (blk_below HG2.out HX3.out) 4)
    | (go_at_call 43; (with_reducible refine (HC4.out _ (by repeat (first | exact HX3.out | apply below_drew1 | apply pw_below_drewN))).mono ?_); rintro e w4 ⟨v4, rfl, hR4, hx4⟩; obtain ⟨B4, d4, rfl⟩ := Kd.R_slice hR4; have HX4 := Aside0.mk (below_then HX3.out HX3.out.size (show Below w3.heap.size w3 w4 from ⟨hx4.os, hx4.tape, hx4.output, hx4.size, hx4.block⟩)); have HR4 := Aside0.mk hR4; have HY4 := Aside0.mk (show Below w3.heap.size w3 w4 from ⟨hx4.os, hx4.tape, hx4.output, hx4.size, hx4.block⟩); clear hx4 hR4; have u3 := pw_cell_below HX4.out q3; have u4 := pw_cell_below HX4.out q4; have t3 := blk_frozen (blk_below HG2.out HX4.out) 3; have t4 := blk_frozen (blk_below HG2.out HX4.out) 4)
    | fail)
  all_goals
    have hlt := HS2.out
    have hg6 : ((w4.setCell ⟨g6, 3, none⟩ (.slice B3 y.f3.length d3)).setCell ⟨g6, 4, none⟩ (.slice B4 y.f4.length d4)).heap[g6]? = some (.cells #[.int .i64 y.f0, .string y.f1, .int .i64 y.f2, .slice B3 y.f3.length d3, .slice B4 y.f4.length d4] 40 (0, 0)) := by
      refine blk_put (cs := #[.int .i64 y.f0, .string y.f1, .int .i64 y.f2, .slice B3 y.f3.length d3, .slice A4 y.f4.length c4]) ?_ 4 _ rfl
      refine blk_put (cs := #[.int .i64 y.f0, .string y.f1, .int .i64 y.f2, .slice A3 y.f3.length c3, .slice A4 y.f4.length c4]) ?_ 3 _ rfl
      exact blk_below HG2.out HX4.out
    have hg4 : ((w4.setCell ⟨g6, 3, none⟩ (.slice B3 y.f3.length d3)).setCell ⟨g6, 4, none⟩ (.slice B4 y.f4.length d4)).heap[w.heap.size]? = some (.cells #[.int .i64 0, .string ⟨#[]⟩, .int .i64 0, .slice none 0 0, .slice none 0 0] 40 (0, 0)) := blk_far (blk_far (blk_below HG4.out HX4.out) (Nat.ne_of_lt hlt) _) (Nat.ne_of_lt hlt) _
    have hb5 : Below w.heap.size w ((w4.setCell ⟨g6, 3, none⟩ (.slice B3 y.f3.length d3)).setCell ⟨g6, 4, none⟩ (.slice B4 y.f4.length d4)) := below_set (below_set (below_then HB2.out HB2.out.size HX4.out) (Nat.le_of_lt hlt)) (Nat.le_of_lt hlt)
    have hw6 := blk_below HG2.out HX4.out
    have r3 : Kd.R (Kd.int .i64) 3 w4 w.heap.size (fun _ => True) (.slice B3 y.f3.length d3) y.f3 := Kd.R_lower (Kd.R_below HR3.out HY4.out) (show w.heap.size ≤ W2.heap.size from HB2.out.size)
    have r4 : Kd.R k70 70 w4 w.heap.size (fun _ => True) (.slice B4 y.f4.length d4) y.f4 := Kd.R_lower HR4.out (Nat.le_trans HB2.out.size HX3.out.size)
    have hw7 := blk_put (cs := #[.int .i64 y.f0, .string y.f1, .int .i64 y.f2, .slice A3 y.f3.length c3, .slice A4 y.f4.length c4]) hw6 3 (.slice B3 y.f3.length d3) rfl
    have hM : k40.M ((w4.setCell ⟨g6, 3, none⟩ (.slice B3 y.f3.length d3)).setCell ⟨g6, 4, none⟩ (.slice B4 y.f4.length d4)) w.heap.size (fun _ => True) y [.int .i64 y.f0, .string y.f1, .int .i64 y.f2, .slice B3 y.f3.length d3, .slice B4 y.f4.length d4] :=
      k40_mkM _ _ _ y (Kd.R_set (Kd.R_set r3 hw6 (by decide) 3 _) hw7 (by decide) 4 _) (Kd.R_set (Kd.R_set r4 hw6 (by decide) 3 _) hw7 (by decide) 4 _)
    have HM := Aside0.mk hM
    have HG4' := Aside0.mk hg4
    have HB5 := Aside0.mk hb5
    clear hM hb5 hw6 hw7 r3 r4 hlt
    generalize ((w4.setCell ⟨g6, 3, none⟩ (.slice B3 y.f3.length d3)).setCell ⟨g6, 4, none⟩ (.slice B4 y.f4.length d4)) = W5 at hg6 hg4 HM HG4' HB5 ⊢
    have b0 := (blk_cell hg6 0).trans (show _ = some _ from rfl)
    have a0 := (blk_cell hg4 0).trans (show _ = some _ from rfl)
    have y0 := blk_frozen hg4 0
    have b1 := (blk_cell hg6 1).trans (show _ = some _ from rfl)
    have a1 := (blk_cell hg4 1).trans (show _ = some _ from rfl)
    have y1 := blk_frozen hg4 1
    have b2 := (blk_cell hg6 2).trans (show _ = some _ from rfl)
    have a2 := (blk_cell hg4 2).trans (show _ = some _ from rfl)
    have y2 := blk_frozen hg4 2
    have b3 := (blk_cell hg6 3).trans (show _ = some _ from rfl)
    have a3 := (blk_cell hg4 3).trans (show _ = some _ from rfl)
    have y3 := blk_frozen hg4 3
    have b4 := (blk_cell hg6 4).trans (show _ = some _ from rfl)
    have a4 := (blk_cell hg4 4).trans (show _ = some _ from rfl)
    have y4 := blk_frozen hg4 4
    clear hg6 hg4 q3 q4 p3 p4
    try clear r4
    try clear s3 s4 u3 u4 t3 t4
    go_wp2_with fail
    refine bodyPost_ret (results_ct rfl _ _ (w.heap.size) 40 #[.int .i64 y.f0, .string y.f1, .int .i64 y.f2, .slice B3 y.f3.length d3, .slice B4 y.f4.length d4] (0, 0) _ rfl (by
      refine blk_put (cs := #[.int .i64 y.f0, .string y.f1, .int .i64 y.f2, .slice B3 y.f3.length d3, .slice none 0 0]) ?_ 4 _ rfl
      refine blk_put (cs := #[.int .i64 y.f0, .string y.f1, .int .i64 y.f2, .slice none 0 0, .slice none 0 0]) ?_ 3 _ rfl
      refine blk_put (cs := #[.int .i64 y.f0, .string y.f1, .int .i64 0, .slice none 0 0, .slice none 0 0]) ?_ 2 _ rfl
      refine blk_put (cs := #[.int .i64 y.f0, .string ⟨#[]⟩, .int .i64 0, .slice none 0 0, .slice none 0 0]) ?_ 1 _ rfl
      refine blk_put (cs := #[.int .i64 0, .string ⟨#[]⟩, .int .i64 0, .slice none 0 0, .slice none 0 0]) ?_ 0 _ rfl
      exact HG4'.out) hu40 rfl (by kernel_rfl)) rfl ?_
    exact ⟨_, rfl, HY.out ▸ (k40.M_mono (fun _ _ => trivial) (Kd.M_step (Kd.M_types HM.out HG4'.out k40_types) (fun k hk _ => set5_other _ _ _ _ _ _ _ k hk.2))), (below_set (below_set (below_set (below_set (below_set HB5.out (by omega)) (by omega)) (by omega)) (by omega)) (by omega))⟩
theorem copy_calls (v : Value) (f : Nat → Option S40) (next : Int) (n : Int) (w0 w : World) (h : DocF w0 v f next) (hbw : Below w0.heap.size w0 w) (h3 : ((look f n).getD z40).f3.length ≤ 1099511627776) (h4 : ((look f n).getD z40).f4.length ≤ 1099511627776) :
    Calls Try.prog 20 #[v, .int .i64 n] w (CopyPost w (look f n)) :=
  copy_gen v n (look f n) w0 w hbw (fun W hW => node_calls v f next n w0 W h (below_then hbw hbw.size hW)) h3 h4
end Go.Proofs.Ytpnlbmeeihbjaaa.P
end
section
set_option linter.unusedVariables false
set_option linter.unusedSimpArgs false
namespace Go.Proofs.Ytpnlbmeeihbjaaa.P
open Go.RowKit Go.Proofs.YtpnlbmeeihbjaaaW.PrintWords Go.Proofs.YtpnlbmeeihbjaaaW.PrintLast Go.Proofs.YtpnlbmeeihbjaaaW.PrintMore
attribute [local go_sem] max2_int min2_int max_two min_two max_three min_three max_four min_four
set_option linter.unusedVariables false
set_option linter.unusedSimpArgs false
structure Chg where
  id : Int
  fn : Nat
  cap : Array Value
  act : S40 → S40
def Gives (wB : World) (c : Chg) (P : S40 → Prop) : Prop :=
  ∀ (W : World) (base g : Nat) (x : S40) (cs : Array Value), P x → Below wB.heap.size wB W → wB.heap.size ≤ base → base ≤ g → W.heap[g]? = some (.cells cs 40 (0, 0)) → k40.M W base (fun k => k ≠ g) x cs.toList →
    Calls Try.prog c.fn (#[.pointer (some ⟨g, 0, none⟩)] ++ c.cap) W fun e w' => e = .returned (.tuple #[]) ∧ Below base W w' ∧ ∃ cs' : Array Value, w'.heap[g]? = some (.cells cs' 40 (0, 0)) ∧ k40.M w' base (fun k => k ≠ g) (c.act x) cs'.toList
def chgF (f : Nat → Option S40) (c : Chg) : Nat → Option S40 := putF f c.id (some (c.act ((look f c.id).getD z40)))
def chgs (f : Nat → Option S40) (l : List Chg) : Nat → Option S40 := l.foldl chgF f
theorem chgs_snoc (f : Nat → Option S40) (l : List Chg) (i : Nat) (c : Chg) (h : l[i]? = some c) : chgs f (l.take (i + 1)) = chgF (chgs f (l.take i)) c := by
  have hlt := (List.getElem?_eq_some_iff.1 h).1
  rw [List.take_succ_eq_append_getElem hlt]
  unfold chgs
  rw [List.foldl_append]
  have e : l[i] = c := (List.getElem?_eq_some_iff.1 h).2
  rw [e]; rfl
def ChgRow (w : World) (gl : Nat) (l : List Chg) : Prop :=
  ∃ cs : Array Value, w.heap[gl]? = some (.cells cs 84 (0, 0)) ∧ ∀ i c, l[i]? = some c → cs[i * 2]? = some (.int .i64 c.id) ∧ cs[i * 2 + 1]? = some (.func (.func c.fn) #[] c.cap) ∧ ∀ (args : Array Value) (w : World), (callFunc c.fn args).run Try.prog w = .ok (.enter c.fn args) w
theorem below_more {B B' : Nat} {w w1 w2 : World} (h : Below B w w1) (k : Below B' w1 w2) (hB : B ≤ B') : Below B w w2 :=
  ⟨k.os.trans h.os, k.tape.trans h.tape, k.output.trans h.output, Nat.le_trans h.size k.size, fun i hi => (k.block i (Nat.lt_of_lt_of_le hi hB)).trans (h.block i hi)⟩
theorem k40_cellsM {w : World} {base : Nat} {ok : Nat → Prop} {x : S40} {cs : Array Value} (h : k40.M w base ok x cs.toList) : ∃ A3 c3 A4 c4, cs = #[.int .i64 x.f0, .string x.f1, .int .i64 x.f2, .slice A3 x.f3.length c3, .slice A4 x.f4.length c4] := by
  obtain ⟨v3, v4, hcs, h3, h4⟩ := k40_openM h
  obtain ⟨A3, c3, rfl⟩ := Kd.R_slice h3
  obtain ⟨A4, c4, rfl⟩ := Kd.R_slice h4
  obtain ⟨l⟩ := cs
  simp only at hcs
  subst hcs
  exact ⟨A3, c3, A4, c4, rfl⟩
theorem TrieO.ptr {ok : Nat → Prop} {w : World} {v : Value} {f : Nat → Option S40} (h : TrieO ok w v f) : ∃ p, v = .pointer (some p) := by
  obtain ⟨b, p, e, _⟩ := h
  exact ⟨_, e⟩
def DocO (ok : Nat → Prop) (w : World) (v : Value) (f : Nat → Option S40) (next : Int) : Prop :=
  ∃ b t, v = .pointer (some ⟨b, 0, none⟩) ∧ ok b ∧ w.heap[b]? = some (.cells #[.pointer (some t), .int .i64 next] 76 (0, 0)) ∧ TrieO ok w (.pointer (some t)) f
theorem DocO.doc {ok : Nat → Prop} {w : World} {v : Value} {f : Nat → Option S40} {next : Int} (h : DocO ok w v f next) : DocF w v f next := by
  obtain ⟨b, t, e, _, hh, ht⟩ := h
  exact ⟨b, t, e, hh, ht.bound⟩
theorem DocO.step {ok ok' : Nat → Prop} {w w1 : World} {v : Value} {f : Nat → Option S40} {next : Int} (h : DocO ok w v f next) (hs : ∀ k, ok k → k < w.heap.size → w1.heap[k]? = w.heap[k]?) (hk : ∀ k, ok k → ok' k) : DocO ok' w1 v f next := by
  obtain ⟨b, t, e, ho, hh, ht⟩ := h
  exact ⟨b, t, e, hk b ho, blk_step hs ho hh, ht.step hs hk⟩
theorem DocO.below {ok : Nat → Prop} {w w1 : World} {v : Value} {f : Nat → Option S40} {next : Int} (h : DocO ok w v f next) (hb : Below w.heap.size w w1) : DocO ok w1 v f next := h.step (fun k _ hk => hb.block k hk) (fun _ h => h)
theorem DocF.all {w : World} {v : Value} {f : Nat → Option S40} {next : Int} (h : DocF w v f next) : DocO (fun k => k < w.heap.size) w v f next := by
  obtain ⟨b, t, e, hh, ht⟩ := h
  exact ⟨b, t, e, blk_lt hh, hh, ht⟩
theorem TrieO.boundO {ok : Nat → Prop} {w : World} {v : Value} {f : Nat → Option S40} (h : TrieO ok w v f) : TrieO (fun k => ok k ∧ k < w.heap.size) w v f := by
  obtain ⟨b, p, e, ho, hh, ht⟩ := h
  exact ⟨b, p, e, ⟨ho, blk_lt hh⟩, hh, TF.boundO 4 ht⟩
set_option maxHeartbeats 8000000 in
set_option maxRecDepth 100000 in
theorem with_O (ok : Nat → Prop) (v : Value) (f : Nat → Option S40) (next : Int) (l : List Chg) (gl : Nat) (w : World) (hfresh : ∀ k, w.heap.size ≤ k → ok k) (h : DocO ok w v f next) (hrow : ChgRow w gl l) (hn : l.length ≤ 1000)
    (hg : ∀ i c, l[i]? = some c → ((look (chgs f (l.take i)) c.id).getD z40).f3.length ≤ 1099511627776 ∧ ((look (chgs f (l.take i)) c.id).getD z40).f4.length ≤ 1099511627776 ∧ Gives w c (fun x => x = (look (chgs f (l.take i)) c.id).getD z40)) :
    Calls Try.prog 54 #[v, .slice (some ⟨gl, 0, none⟩) l.length l.length] w fun e w' => ∃ b' t', e = .returned (.pointer (some ⟨b', 0, none⟩)) ∧ w.heap.size ≤ b' ∧ w'.heap[b']? = some (.cells #[.pointer (some t'), .int .i64 next] 76 (0, 0)) ∧ TrieO (fun k => ok k ∧ k ≠ b') w' (.pointer (some t')) (chgs f l) ∧ Below w.heap.size w w' := by
  obtain ⟨b, t, rfl, ho, hb, ht⟩ := h
  have HO := Aside0.mk ho
  have HFR := Aside0.mk hfresh
  have HB := Aside0.mk hb
  have HT := Aside0.mk ht
  have HR := Aside0.mk hrow
  have HN := Aside0.mk hn
  have HG := Aside0.mk hg
  have hu76 := Try.underlying76
  have hu84 := Try.underlying84
  have hu40 := Try.underlying40
  have a0 := (blk_cell hb 0).trans (show _ = some _ from rfl)
  have a1 := (blk_cell hb 1).trans (show _ = some _ from rfl)
  clear hb ht hrow hn hg ho hfresh
  go_enter Try.func54, Try.ntmps54
  go_wp2_with fail
  go_loopg [7, 8, 9, 15] (l.length + 1) (fun kq v7 v8 v9 v15 w' => ∃ (i : Nat) (t' : Addr), v15 = .int .i64 i ∧ Aside0 (i + kq = l.length + 1) ∧ Aside0 (i ≤ l.length) ∧ Aside0 (w'.heap[w.heap.size]? = some (.cells #[.pointer (some t'), .int .i64 next] 76 (0, 0))) ∧ Aside0 (TrieO (fun k => ok k ∧ k ≠ w.heap.size) w' (.pointer (some t')) (chgs f (l.take i))) ∧ Aside0 (Below w.heap.size w w'))
  case atStart => exact ⟨0, t, rfl, ⟨by omega⟩, ⟨by omega⟩, ⟨blk_new _ _⟩, ⟨TrieO.step (TrieO.boundO HT.out) (fun k _ hk => Below.heap_alloc w _ k hk) (fun k hk => ⟨hk.1, Nat.ne_of_lt hk.2⟩)⟩, ⟨below_alloc (Below.refl _ _) _⟩⟩
  case round =>
    clear a0 a1 HT HB
    obtain ⟨i, t', rfl, HI, HL, HX, HT, HB⟩ := hrel
    cases gk with
    | zero => exact absurd HI.out (by have := HL.out; omega)
    | succ n =>
      by_cases c : i < l.length
      · have c1 : decide (i < l.length) = true := decide_eq_true c
        obtain ⟨ch, hch⟩ : ∃ ch, l[i]? = some ch := ⟨_, List.getElem?_eq_getElem c⟩
        obtain ⟨rc, hrc, hri⟩ := HR.out
        obtain ⟨e0, e1, ent⟩ := hri i ch hch
        have hr0 := blk_below hrc HB.out
        have k0 := (blk_cell hr0 (i * 2)).trans e0
        have k1 := (blk_cell hr0 (i * 2 + 1)).trans e1
        have HCH := Aside0.mk (And.intro c hch)
        have HENT := Aside0.mk ent
        obtain ⟨F, hF⟩ : ∃ F, F = chgs f (l.take i) := ⟨_, rfl⟩
        have hgi := HG.out i ch hch
        rw [← hF] at HT hgi
        have HGI := Aside0.mk hgi
        have HF := Aside0.mk hF
        clear hch hrc hri e0 e1 ent hr0 hF hgi
        obtain ⟨cid, cfn, ccap, cact⟩ := ch
        simp only at k0 k1
        go_upto_region 5 with (first
          | ((with_reducible refine gate_store (t := 84) (p := 7) (v := .tmp 18) rfl ?_); refine wpList_store_row rfl 84 (.tmp 7) (.tmp 18) rfl wr.heap.size #[.int .i64 cid, .func (.func cfn) #[] ccap] rfl rfl 84 #[.int .i64 0, .nilFunc] (blk_new _ _) (by kernel_rfl) rfl (by simp [Value.oneCell']) ?_)
          | fail)
        rw [World.setRow_alloc_new]
        have HG7 : Aside0 ((wr.alloc (.cells #[.int .i64 cid, .func (.func cfn) #[] ccap] 84)).heap[wr.heap.size]? = some (.cells #[.int .i64 cid, .func (.func cfn) #[] ccap] 84 (0, 0))) := ⟨blk_new _ _⟩
        have HBR : Aside0 (Below wr.heap.size wr (wr.alloc (.cells #[.int .i64 cid, .func (.func cfn) #[] ccap] 84))) := ⟨below_alloc (Below.refl _ _) _⟩
        have HLT : Aside0 (wr.heap.size < (wr.alloc (.cells #[.int .i64 cid, .func (.func cfn) #[] ccap] 84)).heap.size) := ⟨blk_lt (blk_new _ _)⟩
        generalize wr.alloc (.cells #[.int .i64 cid, .func (.func cfn) #[] ccap] 84) = W1 at HG7 HBR HLT ⊢
        have k70 := (blk_cell HG7.out 0).trans (show _ = some _ from rfl)
        clear k0 k1 c1 c
        go_wp2_with fail
        refine (copy_calls _ F next cid wr W1 ⟨_, _, rfl, HX.out, HT.out.bound⟩ HBR.out HGI.out.1 HGI.out.2.1).mono ?_
        rintro e W2 ⟨cs, rfl, hM, hb2⟩
        obtain ⟨y, hy⟩ : ∃ y, y = (look F cid).getD z40 := ⟨_, rfl⟩
        rw [← hy] at hM
        obtain ⟨A3, c3, A4, c4, rfl⟩ := k40_cellsM hM
        have HY := Aside0.mk hy
        have HM := Aside0.mk hM
        have HB2 := Aside0.mk hb2
        clear hM hy hb2 k70
        go_upto_region 6 with (fail)
        have HG8 : Aside0 ((W2.alloc (.cells #[.int .i64 y.f0, .string y.f1, .int .i64 y.f2, .slice A3 y.f3.length c3, .slice A4 y.f4.length c4] 40)).heap[W2.heap.size]? = some (.cells #[.int .i64 y.f0, .string y.f1, .int .i64 y.f2, .slice A3 y.f3.length c3, .slice A4 y.f4.length c4] 40 (0, 0))) := ⟨blk_new _ _⟩
        have HB3 : Aside0 (Below W1.heap.size W1 (W2.alloc (.cells #[.int .i64 y.f0, .string y.f1, .int .i64 y.f2, .slice A3 y.f3.length c3, .slice A4 y.f4.length c4] 40))) := ⟨below_alloc HB2.out _⟩
        have HM3 : Aside0 (k40.M (W2.alloc (.cells #[.int .i64 y.f0, .string y.f1, .int .i64 y.f2, .slice A3 y.f3.length c3, .slice A4 y.f4.length c4] 40)) W1.heap.size (fun k => k ≠ W2.heap.size) y [.int .i64 y.f0, .string y.f1, .int .i64 y.f2, .slice A3 y.f3.length c3, .slice A4 y.f4.length c4]) := ⟨k40.M_mono (fun k hk => hk.2) (Kd.M_types (Kd.M_below HM.out (below_alloc (Below.refl _ _) _)) (blk_new _ _) k40_types)⟩
        have HS3 : Aside0 (W1.heap.size ≤ W2.heap.size) := ⟨HB2.out.size⟩
        generalize W2.alloc (.cells #[.int .i64 y.f0, .string y.f1, .int .i64 y.f2, .slice A3 y.f3.length c3, .slice A4 y.f4.length c4] 40) = W3 at HG8 HB3 HM3 ⊢
        generalize W2.heap.size = g8 at HG8 HM3 HS3 ⊢
        have k71 := (blk_cell (blk_below HG7.out HB3.out) 1).trans (show _ = some _ from rfl)
        have ent := HENT.out
        have HCALL : Aside0 (Calls Try.prog cfn (#[.pointer (some ⟨g8, 0, none⟩)] ++ ccap) W3 fun e w' => e = .returned (.tuple #[]) ∧ Below W1.heap.size W3 w' ∧ ∃ cs' : Array Value, w'.heap[g8]? = some (.cells cs' 40 (0, 0)) ∧ k40.M w' W1.heap.size (fun k => k ≠ g8) (cact y) cs'.toList) := ⟨HGI.out.2.2 W3 W1.heap.size g8 y _ HY.out (below_then HB.out HB.out.size (below_then HBR.out HBR.out.size HB3.out)) (Nat.le_trans HB.out.size HBR.out.size) HS3.out HG8.out HM3.out⟩
        go_wp2_with fail
        refine HCALL.out.mono ?_
        rintro e W4 ⟨rfl, hb4, cs', hg8, hM4⟩
        obtain ⟨B3, d3, B4, d4, rfl⟩ := k40_cellsM hM4
        obtain ⟨z, hz⟩ : ∃ z, z = cact y := ⟨_, rfl⟩
        rw [← hz] at hM4 hg8
        have hwlt : w.heap.size < W1.heap.size := Nat.lt_of_le_of_lt HB.out.size HLT.out
        have hb14 : Below W1.heap.size W1 W4 := below_more HB3.out hb4 (Nat.le_refl _)
        have hx4 := blk_below (blk_below HX.out HBR.out) hb14
        have h74 := blk_below HG7.out hb14
        have HT4 : Aside0 (TrieO (fun k => ok k ∧ k ≠ w.heap.size) W4 (.pointer (some t')) F) := ⟨(HT.out.below HBR.out).below hb14⟩
        have HX4 := Aside0.mk hx4
        have HZ := Aside0.mk hz
        have HFK : Aside0 (Kd.FK k40 W4 (fun k => ok k ∧ k ≠ w.heap.size) z [.int .i64 z.f0, .string z.f1, .int .i64 z.f2, .slice B3 z.f3.length d3, .slice B4 z.f4.length d4]) := ⟨Kd.FK_of_M (k40.M_mono (fun k hk => ⟨HFR.out k (by have := hk.2.1; omega), by have := hk.2.1; omega⟩) (k40.M_bound hM4))⟩
        have HSZ : Aside0 (∀ k, W4.heap.size ≤ k → ok k ∧ k ≠ w.heap.size) := ⟨fun k hk => ⟨HFR.out k (by have := hb14.size; omega), by have := hb14.size; omega⟩⟩
        have HB14 := Aside0.mk (below_then (below_then HB.out HB.out.size HBR.out) (Nat.le_of_lt hwlt) hb14)
        have x0 := (blk_cell hx4 0).trans (show _ = some _ from rfl)
        have z0 := (blk_cell h74 0).trans (show _ = some _ from rfl)
        have g0 := (blk_cell hg8 0).trans (show _ = some _ from rfl)
        have g1 := (blk_cell hg8 1).trans (show _ = some _ from rfl)
        have g2 := (blk_cell hg8 2).trans (show _ = some _ from rfl)
        have g3 := (blk_cell hg8 3).trans (show _ = some _ from rfl)
        have g4 := (blk_cell hg8 4).trans (show _ = some _ from rfl)
        clear hM4 hz hwlt hb14 hx4 h74 hg8 hb4 k71 ent
        go_wp2_with (first | (go_at_call 52; refine (put_O (fun k => ok k ∧ k ≠ w.heap.size) cid (.pointer (some t')) F z _ W4 HSZ.out HT4.out HFK.out).mono ?_; rintro e W5 ⟨t5, rfl, hT5, hb5⟩; obtain ⟨q5, rfl⟩ := hT5.ptr; have hx5 := blk_below HX4.out hb5; have c5 := (blk_cell hx5 0).trans (show _ = some _ from rfl); have f5 := blk_frozen hx5 0; have HX5 := Aside0.mk hx5; have HT5 := Aside0.mk hT5; have HB5 := Aside0.mk (below_then HB14.out HB14.out.size hb5); clear hx5 hT5 hb5) | fail)
        go_roundg n
        case measure => have := HI.out; omega
        case rel =>
          refine ⟨i + 1, q5, (by simp; have := HCH.out.1; have := HN.out; unfold wrap64; omega), ⟨by have := HI.out; omega⟩, ⟨by have := HCH.out.1; omega⟩, ⟨blk_put HX5.out 0 _ rfl⟩, ⟨?_⟩, ⟨below_set HB5.out (Nat.le_refl _)⟩⟩
          have e : chgs f (l.take (i + 1)) = putF F cid (some z) := by
            rw [chgs_snoc f l i _ HCH.out.2, ← HF.out, HZ.out, HY.out]; rfl
          rw [e]
          exact HT5.out.step (fun k hk _ => heap_setCell_other W5 _ k _ hk.2) (fun _ h => h)
      · have c1 : decide (i < l.length) = false := decide_eq_false c
        go_wp2_with fail
        go_ret
        refine ⟨w.heap.size, t', rfl, Nat.le_refl _, HX.out, ?_, HB.out⟩
        have e : l.take i = l := List.take_of_length_le (by omega)
        rw [← e]
        exact HT.out
end Go.Proofs.Ytpnlbmeeihbjaaa.P
end
section
set_option linter.unusedVariables false
set_option linter.unusedSimpArgs false
namespace Go.Proofs.Ytpnlbmeeihbjaaa.P
open Go.RowKit Go.Proofs.YtpnlbmeeihbjaaaW.PrintWords Go.Proofs.YtpnlbmeeihbjaaaW.PrintLast Go.Proofs.YtpnlbmeeihbjaaaW.PrintMore
attribute [local go_sem] max2_int min2_int max_two min_two max_three min_three max_four min_four
set_option linter.unusedVariables false
set_option linter.unusedSimpArgs false
def depL (f : Nat → Option S40) : Nat → Option S40 → Int → Option Int
  | 0, _, _ => none
  | _ + 1, none, k => some k
  | n + 1, some x, k => depL f n (look f x.f2) (wrap64 (k + 1))
def witL (f : Nat → Option S40) (other : Int) : Nat → Option S40 → Option Bool
  | 0, _ => none
  | _ + 1, none => some false
  | n + 1, some x => if x.f0 = other then some true else witL f other n (look f x.f2)
def NBlk (w : World) (g : Nat) (y : S40) : Prop := ∃ A3 Ac3 A4 Ac4, w.heap[g]? = some (.cells #[.int .i64 y.f0, .string y.f1, .int .i64 y.f2, .slice A3 y.f3.length Ac3, .slice A4 y.f4.length Ac4] 40 (0, 0))
set_option maxHeartbeats 8000000 in
set_option maxRecDepth 100000 in
theorem depth_calls (n : Nat) (v : Value) (f : Nat → Option S40) (next : Int) (id : Int) (r : Int) (w0 w : World) (h : DocF w0 v f next) (hbw : Below w0.heap.size w0 w) (hr : depL f n (look f id) 0 = some r) :
    Calls Try.prog 53 #[v, .int .i64 id] w fun e w' => e = .returned (.int .i64 r) ∧ Below w.heap.size w w' := by
  have HD := Aside0.mk h
  have HBW := Aside0.mk hbw
  have HR := Aside0.mk hr
  obtain ⟨b, t, rfl, _, _⟩ := h
  have hu40 := Try.underlying40
  clear hbw hr
  go_enter Try.func53, Try.ntmps53
  go_wp2_with fail
  refine (node_calls _ f next id w0 w HD.out HBW.out).mono ?_
  rintro e W1 ⟨cs, rfl, hK, hb1⟩
  obtain ⟨y, hy⟩ : ∃ y, y = (look f id).getD z40 := ⟨_, rfl⟩
  rw [← hy] at hK
  obtain ⟨A3, Ac3, A4, Ac4, rfl⟩ := k40_cells hK
  have HB1 := Aside0.mk hb1
  have HY := Aside0.mk hy
  clear hK hb1 hy
  go_wp2_with fail
  go_loopg [5, 6, 7] n (fun kq v5 v6 v7 w' => ∃ (k : Int) (g : Nat) (o : Option S40), v5 = .int .i64 k ∧ v6 = .pointer (some ⟨g, 0, none⟩) ∧ v7 = .bool o.isSome ∧ Aside0 (w.heap.size ≤ g) ∧ Aside0 (NBlk w' g (o.getD z40)) ∧ Aside0 (depL f kq o k = some r) ∧ Aside0 (Below w.heap.size w w'))
  case atStart => exact ⟨0, W1.heap.size, look f id, rfl, rfl, rfl, ⟨HB1.out.size⟩, ⟨by rw [← HY.out]; exact ⟨_, _, _, _, blk_new _ _⟩⟩, HR, ⟨below_alloc HB1.out _⟩⟩
  case round =>
    clear HY HR HB1
    obtain ⟨k, g, o, rfl, rfl, rfl, HG, HN, HE, HB⟩ := hrel
    cases gk with
    | zero => exact absurd HE.out (by simp [depL])
    | succ n =>
      cases o with
      | none =>
        obtain rfl := Option.some.inj HE.out
        have hz : (none : Option S40).isSome = false := rfl
        go_wp2_with fail
        go_ret
        exact ⟨rfl, HB.out⟩
      | some x =>
        have hE := HE.out
        obtain ⟨B3, Bc3, B4, Bc4, hg⟩ := HN.out
        have hg : wr.heap[g]? = some (.cells #[.int .i64 x.f0, .string x.f1, .int .i64 x.f2, .slice B3 x.f3.length Bc3, .slice B4 x.f4.length Bc4] 40 (0, 0)) := hg
        have hz : (some x).isSome = true := rfl
        have a0 := (blk_cell hg 0).trans (show _ = some _ from rfl)
        have a1 := (blk_cell hg 1).trans (show _ = some _ from rfl)
        have a2 := (blk_cell hg 2).trans (show _ = some _ from rfl)
        have a3 := (blk_cell hg 3).trans (show _ = some _ from rfl)
        have a4 := (blk_cell hg 4).trans (show _ = some _ from rfl)
        rw [depL] at hE
        have HE2 := Aside0.mk hE
        have HLT := Aside0.mk (blk_lt hg)
        clear hE hg
        go_wp2_with (first | (go_at_call 41; refine (node_calls _ f next x.f2 w0 _ HD.out (below_then HBW.out HBW.out.size (below_alloc HB.out _))).mono ?_; rintro e W2 ⟨cs, rfl, hK, hb2⟩; obtain ⟨y, hy⟩ : ∃ y, y = (look f x.f2).getD z40 := ⟨_, rfl⟩; rw [← hy] at hK; obtain ⟨C3, Cc3, C4, Cc4, rfl⟩ := k40_cells hK; have hg2 := blk_below (blk_new _ _) hb2; have b0 := (blk_cell hg2 0).trans (show _ = some _ from rfl); have y0 := blk_frozen hg2 0; have b1 := (blk_cell hg2 1).trans (show _ = some _ from rfl); have y1 := blk_frozen hg2 1; have b2 := (blk_cell hg2 2).trans (show _ = some _ from rfl); have y2 := blk_frozen hg2 2; have b3 := (blk_cell hg2 3).trans (show _ = some _ from rfl); have y3 := blk_frozen hg2 3; have b4 := (blk_cell hg2 4).trans (show _ = some _ from rfl); have y4 := blk_frozen hg2 4; have HG2 := Aside0.mk hg2; have HB2 := Aside0.mk (below_then (below_alloc HB.out _) (below_alloc HB.out _).size hb2); have HY := Aside0.mk hy; clear hg2 hb2 hK hy) | fail)
        go_roundg n
        case measure => omega
        case rel =>
          have hsz := HB.out.size
          refine ⟨_, wr.heap.size, look f x.f2, rfl, rfl, rfl, ⟨hsz⟩, ⟨?_⟩, HE2, ⟨(below_set (below_set (below_set (below_set (below_set HB2.out (by omega)) (by omega)) (by omega)) (by omega)) (by omega))⟩⟩
          rw [← HY.out]
          refine ⟨C3, Cc3, C4, Cc4, ?_⟩
          refine blk_put (cs := #[.int .i64 y.f0, .string y.f1, .int .i64 y.f2, .slice C3 y.f3.length Cc3, .slice B4 x.f4.length Bc4]) ?_ 4 _ rfl
          refine blk_put (cs := #[.int .i64 y.f0, .string y.f1, .int .i64 y.f2, .slice B3 x.f3.length Bc3, .slice B4 x.f4.length Bc4]) ?_ 3 _ rfl
          refine blk_put (cs := #[.int .i64 y.f0, .string y.f1, .int .i64 x.f2, .slice B3 x.f3.length Bc3, .slice B4 x.f4.length Bc4]) ?_ 2 _ rfl
          refine blk_put (cs := #[.int .i64 y.f0, .string x.f1, .int .i64 x.f2, .slice B3 x.f3.length Bc3, .slice B4 x.f4.length Bc4]) ?_ 1 _ rfl
          refine blk_put (cs := #[.int .i64 x.f0, .string x.f1, .int .i64 x.f2, .slice B3 x.f3.length Bc3, .slice B4 x.f4.length Bc4]) ?_ 0 _ rfl
          exact HG2.out
set_option maxHeartbeats 8000000 in
set_option maxRecDepth 100000 in
theorem within_calls (n : Nat) (v : Value) (f : Nat → Option S40) (next : Int) (id : Int) (other : Int) (r : Bool) (w0 w : World) (h : DocF w0 v f next) (hbw : Below w0.heap.size w0 w) (hr : witL f other n (look f id) = some r) :
    Calls Try.prog 59 #[v, .int .i64 id, .int .i64 other] w fun e w' => e = .returned (.bool r) ∧ Below w.heap.size w w' := by
  have HD := Aside0.mk h
  have HBW := Aside0.mk hbw
  have HR := Aside0.mk hr
  obtain ⟨b, t, rfl, _, _⟩ := h
  have hu40 := Try.underlying40
  clear hbw hr
  go_enter Try.func59, Try.ntmps59
  go_wp2_with fail
  refine (node_calls _ f next id w0 w HD.out HBW.out).mono ?_
  rintro e W1 ⟨cs, rfl, hK, hb1⟩
  obtain ⟨y, hy⟩ : ∃ y, y = (look f id).getD z40 := ⟨_, rfl⟩
  rw [← hy] at hK
  obtain ⟨A3, Ac3, A4, Ac4, rfl⟩ := k40_cells hK
  have HB1 := Aside0.mk hb1
  have HY := Aside0.mk hy
  clear hK hb1 hy
  go_wp2_with fail
  go_loopg [7, 8] n (fun kq v7 v8 w' => ∃ (g : Nat) (o : Option S40), v7 = .pointer (some ⟨g, 0, none⟩) ∧ v8 = .bool o.isSome ∧ Aside0 (w.heap.size ≤ g) ∧ Aside0 (NBlk w' g (o.getD z40)) ∧ Aside0 (witL f other kq o = some r) ∧ Aside0 (Below w.heap.size w w'))
  case atStart => exact ⟨W1.heap.size, look f id, rfl, rfl, ⟨HB1.out.size⟩, ⟨by rw [← HY.out]; exact ⟨_, _, _, _, blk_new _ _⟩⟩, HR, ⟨below_alloc HB1.out _⟩⟩
  case round =>
    clear HY HR HB1
    obtain ⟨g, o, rfl, rfl, HG, HN, HE, HB⟩ := hrel
    cases gk with
    | zero => exact absurd HE.out (by simp [witL])
    | succ n =>
      cases o with
      | none =>
        obtain rfl := Option.some.inj HE.out
        have hz : (none : Option S40).isSome = false := rfl
        go_wp2_with fail
        go_ret
        exact ⟨rfl, HB.out⟩
      | some x =>
        have hE := HE.out
        obtain ⟨B3, Bc3, B4, Bc4, hg⟩ := HN.out
        have hg : wr.heap[g]? = some (.cells #[.int .i64 x.f0, .string x.f1, .int .i64 x.f2, .slice B3 x.f3.length Bc3, .slice B4 x.f4.length Bc4] 40 (0, 0)) := hg
        have hz : (some x).isSome = true := rfl
        have a0 := (blk_cell hg 0).trans (show _ = some _ from rfl)
        have a1 := (blk_cell hg 1).trans (show _ = some _ from rfl)
        have a2 := (blk_cell hg 2).trans (show _ = some _ from rfl)
        have a3 := (blk_cell hg 3).trans (show _ = some _ from rfl)
        have a4 := (blk_cell hg 4).trans (show _ = some _ from rfl)
        by_cases c : x.f0 = other
        · have c1 : (x.f0 == other) = true := by simpa using c
          rw [witL, if_pos c] at hE
          obtain rfl := Option.some.inj hE
          clear hE c
          go_wp2_with fail
          go_ret
          exact ⟨rfl, HB.out⟩
        · have c1 : (x.f0 == other) = false := by simpa using c
          rw [witL, if_neg c] at hE
          clear c
          have HE2 := Aside0.mk hE
          have HLT := Aside0.mk (blk_lt hg)
          clear hE hg
          go_wp2_with (first | (go_at_call 41; refine (node_calls _ f next x.f2 w0 _ HD.out (below_then HBW.out HBW.out.size (below_alloc HB.out _))).mono ?_; rintro e W2 ⟨cs, rfl, hK, hb2⟩; obtain ⟨y, hy⟩ : ∃ y, y = (look f x.f2).getD z40 := ⟨_, rfl⟩; rw [← hy] at hK; obtain ⟨C3, Cc3, C4, Cc4, rfl⟩ := k40_cells hK; have hg2 := blk_below (blk_new _ _) hb2; have b0 := (blk_cell hg2 0).trans (show _ = some _ from rfl); have y0 := blk_frozen hg2 0; have b1 := (blk_cell hg2 1).trans (show _ = some _ from rfl); have y1 := blk_frozen hg2 1; have b2 := (blk_cell hg2 2).trans (show _ = some _ from rfl); have y2 := blk_frozen hg2 2; have b3 := (blk_cell hg2 3).trans (show _ = some _ from rfl); have y3 := blk_frozen hg2 3; have b4 := (blk_cell hg2 4).trans (show _ = some _ from rfl); have y4 := blk_frozen hg2 4; have HG2 := Aside0.mk hg2; have HB2 := Aside0.mk (below_then (below_alloc HB.out _) (below_alloc HB.out _).size hb2); have HY := Aside0.mk hy; clear hg2 hb2 hK hy) | fail)
          go_roundg n
          case measure => omega
          case rel =>
            have hsz := HB.out.size
            refine ⟨wr.heap.size, look f x.f2, rfl, rfl, ⟨hsz⟩, ⟨?_⟩, HE2, ⟨(below_set (below_set (below_set (below_set (below_set HB2.out (by omega)) (by omega)) (by omega)) (by omega)) (by omega))⟩⟩
            rw [← HY.out]
            refine ⟨C3, Cc3, C4, Cc4, ?_⟩
            refine blk_put (cs := #[.int .i64 y.f0, .string y.f1, .int .i64 y.f2, .slice C3 y.f3.length Cc3, .slice B4 x.f4.length Bc4]) ?_ 4 _ rfl
            refine blk_put (cs := #[.int .i64 y.f0, .string y.f1, .int .i64 y.f2, .slice B3 x.f3.length Bc3, .slice B4 x.f4.length Bc4]) ?_ 3 _ rfl
            refine blk_put (cs := #[.int .i64 y.f0, .string y.f1, .int .i64 x.f2, .slice B3 x.f3.length Bc3, .slice B4 x.f4.length Bc4]) ?_ 2 _ rfl
            refine blk_put (cs := #[.int .i64 y.f0, .string x.f1, .int .i64 x.f2, .slice B3 x.f3.length Bc3, .slice B4 x.f4.length Bc4]) ?_ 1 _ rfl
            refine blk_put (cs := #[.int .i64 x.f0, .string x.f1, .int .i64 x.f2, .slice B3 x.f3.length Bc3, .slice B4 x.f4.length Bc4]) ?_ 0 _ rfl
            exact HG2.out
end Go.Proofs.Ytpnlbmeeihbjaaa.P
end
section
set_option linter.unusedVariables false
set_option linter.unusedSimpArgs false
namespace Go.Proofs.Ytpnlbmeeihbjaaa.P
open Go.RowKit Go.Proofs.YtpnlbmeeihbjaaaW.PrintWords Go.Proofs.YtpnlbmeeihbjaaaW.PrintLast Go.Proofs.YtpnlbmeeihbjaaaW.PrintMore
attribute [local go_sem] max2_int min2_int max_two min_two max_three min_three max_four min_four
set_option linter.unusedVariables false
set_option linter.unusedSimpArgs false
theorem putF_gone (f : Nat → Option S40) (n : Int) (h : look f n = none) : putF f n none = f := by
  unfold look at h
  unfold putF
  split
  · rename_i c
    rw [if_pos c] at h
    funext j
    unfold upd
    split
    · rename_i e; rw [e, h]
    · rfl
  · rfl
set_option maxHeartbeats 8000000 in
set_option maxRecDepth 100000 in
theorem drop_O (ok : Nat → Prop) (n : Int) (t : Value) (f : Nat → Option S40) (w : World) (hfresh : ∀ k, w.heap.size ≤ k → ok k) (h : TrieO ok w t f) :
    Calls Try.prog 58 #[t, .int .i64 n] w (PutPost ok w (putF f n none)) := by
  have HTF := Aside0.mk h
  have HFR := Aside0.mk hfresh
  obtain ⟨b, p, rfl, ho, hb, hT⟩ := h
  clear hfresh
  have HB := Aside0.mk hb
  have HT := Aside0.mk hT
  have hu114 := Try.underlying114
  have hu40 := Try.underlying40
  clear hb hT
  cases hl : look f n with
  | none =>
    have HP := Aside0.mk (putF_gone f n hl)
    have HL := Aside0.mk hl
    rw [HP.out]
    have hz : (none : Option S40).isSome = false := rfl
    clear hl
    go_enter Try.func58, Try.ntmps58
    go_wp2_with (first | (go_at_call 77; refine (get_calls n _ f w w HTF.out.trie (Below.refl _ _)).mono ?_; rintro e W2 ⟨cs2, rfl, hK2, hb2⟩; rw [HL.out] at hK2 ⊢; obtain ⟨B3, d3, B4, d4, rfl⟩ := k40_cells (x := z40) hK2; have HB2 := Aside0.mk hb2; clear hb2 hK2) | fail)
    go_ret
    exact ⟨_, rfl, HTF.out.below (below_alloc HB2.out _), below_alloc HB2.out _⟩
  | some y =>
    obtain ⟨m, rfl, hm, hfm⟩ : ∃ m : Nat, n = (m : Int) ∧ m < 1048576 ∧ f m = some y := by
      unfold look at hl
      split at hl
      · rename_i c
        exact ⟨n.toNat, by omega, by omega, hl⟩
      · cases hl
    have hput : putF f (m : Int) none = upd f m none := by unfold putF; rw [if_pos (by omega)]; simp
    rw [hput]
    have HM := Aside0.mk hm
    have HF := Aside0.mk hfm
    have HL := Aside0.mk hl
    have hz : (some y).isSome = true := rfl
    clear hm hput hfm hl
    go_enter Try.func58, Try.ntmps58
    go_upto_region 4 with (first | (go_at_call 77; refine (get_calls (m : Int) _ f w w HTF.out.trie (Below.refl _ _)).mono ?_; rintro e W2 ⟨cs2, rfl, hK2, hb2⟩; rw [HL.out] at hK2 ⊢; obtain ⟨B3, d3, B4, d4, rfl⟩ := k40_cells (x := y) hK2; have HB2 := Aside0.mk hb2; clear hb2 hK2) | fail)
    have HB3 : Aside0 (Below w.heap.size w (W2.alloc (.cells #[.int .i64 y.f0, .string y.f1, .int .i64 y.f2, .slice B3 y.f3.length d3, .slice B4 y.f4.length d4] 40))) := ⟨below_alloc HB2.out _⟩
    generalize W2.alloc (.cells #[.int .i64 y.f0, .string y.f1, .int .i64 y.f2, .slice B3 y.f3.length d3, .slice B4 y.f4.length d4] 40) = W3 at HB3 ⊢
    have hroot := blk_cell (blk_below HB.out HB3.out) 0
    have HREC : Aside0 (Calls Try.prog 82 #[.pointer (some p), .int .i64 (m : Int), .int .i64 0, .pointer none, .int .i64 (-1)] W3 (WithPost (fun k => ok k ∧ k < W3.heap.size) W3 4 m f none)) := ⟨by
      have h := with_all m (.pointer none) (-1) none HM.out 4 (Nat.le_refl _) (fun k => ok k ∧ k < W3.heap.size) (.pointer (some p)) f W3 (fun _ h => h.2) (TF.step (fun k hk hlt => HB3.out.block k hk.2) (fun k hk => ⟨hk.1, Nat.lt_of_lt_of_le hk.2 HB3.out.size⟩) 4 (TF.boundO 4 HT.out)) (.inl ⟨rfl, rfl⟩) (by rw [mod5 m HM.out, HF.out]; rfl)
      rw [mod5 m HM.out] at h
      exact h⟩
    go_wp2_with (first | (go_at_call 82; refine HREC.out.mono ?_; rintro e W4 ⟨v', rfl, hT4, hn4, hb4⟩; obtain ⟨q, rfl⟩ := (TF.tn 4 hT4).ptr; have HT4 := Aside0.mk hT4; have HN4 := Aside0.mk (hn4 rfl); have HB4 := Aside0.mk (below_then HB3.out HB3.out.size hb4); clear hT4 hn4 hb4) | fail)
    go_ret
    cases q with
    | none => exact absurd rfl HN4.out
    | some q =>
      refine ⟨_, rfl, ⟨W4.heap.size, q, rfl, HFR.out _ HB4.out.size, blk_new _ _, ?_⟩, below_alloc HB4.out _⟩
      exact TF.step (fun k _ hk => Below.heap_alloc W4 _ k hk) (fun k hk => hk.elim (fun h => h.1) (fun h => HFR.out k (Nat.le_trans HB3.out.size h))) 4 HT4.out
end Go.Proofs.Ytpnlbmeeihbjaaa.P
end
