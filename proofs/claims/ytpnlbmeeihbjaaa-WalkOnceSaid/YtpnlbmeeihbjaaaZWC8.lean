/- WalkOnce: for every input the law returns true, and each argument reads behind the call as it read before. -/
import Derived.Test.YtpnlbmeeihbjaaaZWC7
import Derived.Laws.Tables
import Derived.Laws.Rows
section
set_option linter.unusedVariables false
set_option linter.unusedSimpArgs false
namespace Go.Proofs.Ytpnlbmeeihbjaaa.P
open Go.RowKit Go.Proofs.YtpnlbmeeihbjaaaW.PrintWords Go.Proofs.YtpnlbmeeihbjaaaW.PrintLast Go.Proofs.YtpnlbmeeihbjaaaW.PrintMore
set_option linter.unusedVariables false
def one (o : Option S40) : Int := if o.isSome then 1 else 0
def cnt : Nat → (Nat → Option S40) → Int
  | 0, _ => 0
  | n + 1, f => cnt n f + one (f n)
def upd (f : Nat → Option S40) (m : Nat) (o : Option S40) : Nat → Option S40 := fun j => if j = m then o else f j
theorem upd_same (f : Nat → Option S40) (m : Nat) (o : Option S40) : upd f m o m = o := if_pos rfl
theorem upd_other (f : Nat → Option S40) (m : Nat) (o : Option S40) (j : Nat) (h : j ≠ m) : upd f m o j = f j := if_neg h
theorem one_range (o : Option S40) : 0 ≤ one o ∧ one o ≤ 1 := by unfold one; split <;> omega
theorem cnt_range : ∀ (n : Nat) (f : Nat → Option S40), 0 ≤ cnt n f ∧ cnt n f ≤ n
  | 0, _ => ⟨Int.le_refl _, Int.le_refl _⟩
  | n + 1, f => by have := cnt_range n f; have := one_range (f n); simp only [cnt]; omega
theorem cnt_same : ∀ (n : Nat) (f g : Nat → Option S40), (∀ j, j < n → f j = g j) → cnt n f = cnt n g
  | 0, _, _, _ => rfl
  | n + 1, f, g, h => by simp only [cnt]; rw [cnt_same n f g (fun j hj => h j (by omega)), h n (by omega)]
theorem cnt_upd : ∀ (n : Nat) (f : Nat → Option S40) (m : Nat) (o : Option S40), m < n → cnt n (upd f m o) = cnt n f + one o - one (f m)
  | n + 1, f, m, o, h => by
    simp only [cnt]
    by_cases e : m = n
    · subst e
      rw [upd_same, cnt_same m (upd f m o) f (fun j hj => upd_other f m o j (by omega))]
      omega
    · rw [cnt_upd n f m o (by omega), upd_other f m o n (by omega)]
      omega
theorem cnt_none : ∀ (n : Nat) (f : Nat → Option S40), cnt n f = 0 → ∀ j, j < n → f j = none
  | n + 1, f, h, j, hj => by
    have h1 := cnt_range n f
    have h2 := one_range (f n)
    simp only [cnt] at h
    by_cases e : j = n
    · subst e
      cases q : f j with
      | none => rfl
      | some x => rw [q] at h h2; simp [one] at h h2; omega
    · exact cnt_none n f (by omega) j (by omega)
theorem cnt_all_none (n : Nat) (f : Nat → Option S40) (h : ∀ j, j < n → f j = none) : cnt n f = 0 := by
  rw [cnt_same n f (fun _ => none) h]
  clear h
  induction n with
  | zero => rfl
  | succ n ih => simp only [cnt, ih]; rfl
def NV (w : World) (v : Value) (o : Option S40) : Prop :=
  (v = .pointer none ∧ o = none) ∨ ∃ b x cs, v = .pointer (some ⟨b, 0, none⟩) ∧ o = some x ∧ w.heap[b]? = some (.cells cs 40 (0, 0)) ∧ k40.K w x cs.toList
def Blk (w : World) (b : Nat) (cs : Array Value) (c : Int) : Prop := w.heap[b]? = some (.cells cs 112 (0, 0)) ∧ cs.size = 33 ∧ cs[32]? = some (.int .i64 c)
def TN : Nat → World → Value → (Nat → Option S40) → Prop
  | 0, w, v, f => (v = .pointer none ∧ ∀ j, j < 16 → f j = none) ∨ ∃ b cs, v = .pointer (some ⟨b, 0, none⟩) ∧ Blk w b cs (cnt 16 f) ∧ ∀ k, k < 16 → cs[k]? = some (.pointer none) ∧ ∃ u, cs[16 + k]? = some u ∧ NV w u (f k)
  | r + 1, w, v, f => (v = .pointer none ∧ ∀ j, j < 16 ^ (r + 2) → f j = none) ∨ ∃ b cs, v = .pointer (some ⟨b, 0, none⟩) ∧ Blk w b cs (cnt (16 ^ (r + 2)) f) ∧
      ∀ k, k < 16 → (∃ u, cs[k]? = some u ∧ TN r w u (fun j => f (k * 16 ^ (r + 1) + j))) ∧ cs[16 + k]? = some (.pointer none)
theorem NV.below {w w1 : World} {v : Value} {o : Option S40} (h : NV w v o) (hb : Below w.heap.size w w1) : NV w1 v o := by
  rcases h with h | ⟨b, x, cs, e1, e2, hh, hK⟩
  · exact .inl h
  · exact .inr ⟨b, x, cs, e1, e2, blk_below hh hb, k40.K_below hb hK⟩
theorem Blk.below {w w1 : World} {b : Nat} {cs : Array Value} {c : Int} (h : Blk w b cs c) (hb : Below w.heap.size w w1) : Blk w1 b cs c := ⟨blk_below h.1 hb, h.2⟩
theorem TN.below {w w1 : World} (hb : Below w.heap.size w w1) : ∀ (r : Nat) {v : Value} {f : Nat → Option S40}, TN r w v f → TN r w1 v f
  | 0, v, f, h => by
    rcases h with h | ⟨b, cs, e, hB, hk⟩
    · exact .inl h
    · exact .inr ⟨b, cs, e, hB.below hb, fun k hlt => ⟨(hk k hlt).1, let ⟨u, hu, hn⟩ := (hk k hlt).2; ⟨u, hu, hn.below hb⟩⟩⟩
  | r + 1, v, f, h => by
    rcases h with h | ⟨b, cs, e, hB, hk⟩
    · exact .inl h
    · exact .inr ⟨b, cs, e, hB.below hb, fun k hlt => ⟨let ⟨u, hu, hn⟩ := (hk k hlt).1; ⟨u, hu, TN.below hb r hn⟩, (hk k hlt).2⟩⟩
theorem TN.same {w : World} : ∀ (r : Nat) {v : Value} {f g : Nat → Option S40}, (∀ j, j < 16 ^ (r + 1) → f j = g j) → TN r w v f → TN r w v g
  | 0, v, f, g, hfg, h => by
    rcases h with ⟨e, h⟩ | ⟨b, cs, e, hB, hk⟩
    · exact .inl ⟨e, fun j hj => (hfg j (by simpa using hj)).symm.trans (h j hj)⟩
    · refine .inr ⟨b, cs, e, by rw [cnt_same 16 g f (fun j hj => (hfg j (by simpa using hj)).symm)]; exact hB, fun k hlt => ⟨(hk k hlt).1, ?_⟩⟩
      obtain ⟨u, hu, hn⟩ := (hk k hlt).2
      exact ⟨u, hu, (hfg k (by simpa using hlt)) ▸ hn⟩
  | r + 1, v, f, g, hfg, h => by
    rcases h with ⟨e, h⟩ | ⟨b, cs, e, hB, hk⟩
    · exact .inl ⟨e, fun j hj => (hfg j hj).symm.trans (h j hj)⟩
    · refine .inr ⟨b, cs, e, by rw [cnt_same _ g f (fun j hj => (hfg j hj).symm)]; exact hB, fun k hlt => ⟨?_, (hk k hlt).2⟩⟩
      obtain ⟨u, hu, hn⟩ := (hk k hlt).1
      refine ⟨u, hu, TN.same r (fun j hj => hfg _ ?_) hn⟩
      have h1 : k * 16 ^ (r + 1) + 16 ^ (r + 1) ≤ 16 * 16 ^ (r + 1) := by
        have := Nat.mul_le_mul_right (16 ^ (r + 1)) (show k + 1 ≤ 16 by omega)
        rw [Nat.add_mul] at this; omega
      have h2 : 16 ^ (r + 1 + 1) = 16 * 16 ^ (r + 1) := by rw [Nat.pow_succ]; omega
      omega
def zeros33 : Array Value := (List.replicate 32 (Value.pointer none) ++ [Value.int .i64 0]).toArray
theorem zeros33_size : zeros33.size = 33 := by decide
theorem zeros33_at (k : Nat) (h : k < 32) : zeros33[k]? = some (.pointer none) := by
  unfold zeros33
  rw [List.getElem?_toArray, List.getElem?_append_left (by rw [List.length_replicate]; exact h), List.getElem?_replicate, if_pos h]
theorem zeros33_last : zeros33[32]? = some (.int .i64 0) := rfl
def Ptrs (cs : Array Value) : Prop := ∀ k, k < 32 → ∃ p, cs[k]? = some (.pointer p)
theorem Ptrs.zeros : Ptrs zeros33 := fun k h => ⟨none, zeros33_at k h⟩
theorem NV.ptr {w : World} {v : Value} {o : Option S40} (h : NV w v o) : ∃ p, v = .pointer p := by
  rcases h with ⟨e, _⟩ | ⟨b, _, _, e, _⟩ <;> exact ⟨_, e⟩
theorem TN.ptr {w : World} : ∀ {r : Nat} {v : Value} {f : Nat → Option S40}, TN r w v f → ∃ p, v = .pointer p
  | 0, _, _, h => by rcases h with ⟨e, _⟩ | ⟨b, _, e, _⟩ <;> exact ⟨_, e⟩
  | _ + 1, _, _, h => by rcases h with ⟨e, _⟩ | ⟨b, _, e, _⟩ <;> exact ⟨_, e⟩
theorem TN.cells {w : World} : ∀ {r : Nat} {v : Value} {f : Nat → Option S40}, TN r w v f → (v = .pointer none ∧ ∀ j, j < 16 ^ (r + 1) → f j = none) ∨
    ∃ b cs, v = .pointer (some ⟨b, 0, none⟩) ∧ Blk w b cs (cnt (16 ^ (r + 1)) f) ∧ Ptrs cs
  | 0, v, f, h => by
    rcases h with ⟨e, h⟩ | ⟨b, cs, e, hB, hk⟩
    · exact .inl ⟨e, fun j hj => h j (by simpa using hj)⟩
    · refine .inr ⟨b, cs, e, hB, fun k hlt => ?_⟩
      by_cases c : k < 16
      · exact ⟨none, (hk k c).1⟩
      · obtain ⟨u, hu, hn⟩ := (hk (k - 16) (by omega)).2
        obtain ⟨p, rfl⟩ := hn.ptr
        exact ⟨p, by rw [show k = 16 + (k - 16) by omega]; exact hu⟩
  | r + 1, v, f, h => by
    rcases h with ⟨e, h⟩ | ⟨b, cs, e, hB, hk⟩
    · exact .inl ⟨e, h⟩
    · refine .inr ⟨b, cs, e, hB, fun k hlt => ?_⟩
      by_cases c : k < 16
      · obtain ⟨u, hu, hn⟩ := (hk k c).1
        obtain ⟨p, rfl⟩ := hn.ptr
        exact ⟨p, hu⟩
      · exact ⟨none, by have := (hk (k - 16) (by omega)).2; rwa [show 16 + (k - 16) = k by omega] at this⟩
theorem cells_one {cs : Array Value} (hs : cs.size = 33) (hp : Ptrs cs) {c : Int} (hc : cs[32]? = some (.int .i64 c)) : cs.all (·.oneCell') = true := by
  rw [Array.all_eq_true]
  intro i hi
  by_cases h : i < 32
  · obtain ⟨p, e⟩ := hp i h
    rw [Array.getElem?_eq_getElem hi] at e
    rw [Option.some.inj e]; rfl
  · have e32 : i = 32 := by omega
    subst e32
    rw [Array.getElem?_eq_getElem hi] at hc
    rw [Option.some.inj hc]; rfl
end Go.Proofs.Ytpnlbmeeihbjaaa.P
end
section
set_option linter.unusedVariables false
set_option linter.unusedSimpArgs false
namespace Go.Proofs.Ytpnlbmeeihbjaaa.P
open Go.RowKit Go.Proofs.YtpnlbmeeihbjaaaW.PrintWords Go.Proofs.YtpnlbmeeihbjaaaW.PrintLast Go.Proofs.YtpnlbmeeihbjaaaW.PrintMore
attribute [local go_sem] max2_int min2_int max_two min_two max_three min_three max_four min_four
set_option linter.unusedVariables false
set_option linter.unusedSimpArgs false
theorem and15 (x : Nat) (h : x < 1048576) : Go.bits .and .i64 (x : Int) 15 = ((x % 16 : Nat) : Int) := by
  have hb := (bits_nat .i64 63 (by decide) (fun n h0 h1 => by rw [IntKind.wrap_i64]; omega) x 15 (by omega) (by decide)).1
  rw [show ((15 : Nat) : Int) = 15 from rfl] at hb
  rw [hb, show (15 : Nat) = 2 ^ 4 - 1 from rfl, Nat.and_two_pow_sub_one_eq_mod]
theorem part_f (n d : Nat) (hn : n < 1048576) (hd : d ≤ 4) : trie_part.f (n : Int) (d : Int) = some ((n / 16 ^ (4 - d) % 16 : Nat) : Int) := by
  have key : ∀ s : Nat, s ≤ 16 → Go.bits .and .i64 (shr .i64 (n : Int) (s : Int)) 15 = ((n / 2 ^ s % 16 : Nat) : Int) := by
    intro s hs
    have e : shr .i64 (n : Int) (s : Int) = ((n / 2 ^ s : Nat) : Int) := by
      show (n : Int) / 2 ^ min (s : Int).toNat 64 = _
      rw [Int.toNat_natCast, Nat.min_eq_left (by omega)]
      norm_cast
    rw [e]
    exact and15 _ (Nat.lt_of_le_of_lt (Nat.div_le_self _ _) hn)
  unfold trie_part.f
  have hw : wrap64 (4 * wrap64 (4 - (d : Int))) = ((4 * (4 - d) : Nat) : Int) := by unfold wrap64; omega
  rw [hw, if_pos (by omega), key (4 * (4 - d)) (by omega), Nat.pow_mul]
theorem part_calls (n d : Nat) (w : World) (hn : n < 1048576) (hd : d ≤ 4) :
    Calls Try.prog 100 #[.int .i64 n, .int .i64 d] w fun e w' => e = .returned (.int .i64 ((n / 16 ^ (4 - d) % 16 : Nat) : Int)) ∧ Below w.heap.size w w' :=
  (trie_part.calls _ _ _ w (part_f n d hn hd)).mono fun e w' ⟨he, hd⟩ => ⟨he, hd.below⟩
theorem made_calls (b : Nat) (v : Value) (w : World) (p : Addr) (hv : v = .pointer (some p)) (hb : w.heap[b]? = some (.cells #[v] 114 (0, 0))) :
    Calls Try.prog 79 #[.pointer (some ⟨b, 0, none⟩)] w fun e w' => e = .returned (.bool true) ∧ Below w.heap.size w w' := by
  have hu114 := Try.underlying114
  have hc := blk_cell hb 0
  subst hv
  clear hb
  go_enter Try.func79, Try.ntmps79
  go_wp2_with fail
  go_ret
  exact ⟨rfl, Below.refl _ _⟩
def Trie (w : World) (v : Value) (f : Nat → Option S40) : Prop :=
  ∃ b u, v = .pointer (some ⟨b, 0, none⟩) ∧ w.heap[b]? = some (.cells #[u] 114 (0, 0)) ∧ u ≠ .pointer none ∧ TN 4 w u f
theorem Trie.below {w w1 : World} {v : Value} {f : Nat → Option S40} (h : Trie w v f) (hb : Below w.heap.size w w1) : Trie w1 v f := by
  obtain ⟨b, u, e, hh, hn, ht⟩ := h
  exact ⟨b, u, e, blk_below hh hb, hn, TN.below hb 4 ht⟩
theorem TN.nil {w : World} : ∀ (r : Nat) {f : Nat → Option S40}, (∀ j, j < 16 ^ (r + 1) → f j = none) → TN r w (.pointer none) f
  | 0, _, h => .inl ⟨rfl, fun j hj => h j (by simpa using hj)⟩
  | _ + 1, _, h => .inl ⟨rfl, h⟩
theorem TN.zeros {w : World} {b : Nat} (r : Nat) (h : w.heap[b]? = some (.cells zeros33 112 (0, 0))) : TN (r + 1) w (.pointer (some ⟨b, 0, none⟩)) (fun _ => none) := by
  refine .inr ⟨b, zeros33, rfl, ⟨h, zeros33_size, ?_⟩, fun k hk => ⟨⟨_, zeros33_at k (by omega), TN.nil r (fun _ _ => rfl)⟩, zeros33_at _ (by omega)⟩⟩
  rw [cnt_all_none _ _ (fun _ _ => rfl)]
  exact zeros33_last
end Go.Proofs.Ytpnlbmeeihbjaaa.P
end
section
set_option linter.unusedVariables false
set_option linter.unusedSimpArgs false
namespace Go.Proofs.Ytpnlbmeeihbjaaa.P
open Go.RowKit Go.Proofs.YtpnlbmeeihbjaaaW.PrintWords Go.Proofs.YtpnlbmeeihbjaaaW.PrintLast Go.Proofs.YtpnlbmeeihbjaaaW.PrintMore
attribute [local go_sem] max2_int min2_int max_two min_two max_three min_three max_four min_four
set_option linter.unusedVariables false
set_option linter.unusedSimpArgs false
def z56cells : Array Value := #[.int .i64 0, .string ⟨#[]⟩, .int .i64 0, .slice none 0 0, .slice none 0 0]
theorem z40_K (w : World) : k40.K w z40 z56cells.toList := by
  have h := k40_mk w z40 (A3 := none) (c3 := 0) (A4 := none) (c4 := 0) (Nat.le_refl _) ⟨rfl, by simp [z40], fun h => absurd h (by simp [z40])⟩ (Nat.le_refl _) ⟨rfl, by simp [z40], fun h => absurd h (by simp [z40])⟩
  exact h
def look (f : Nat → Option S40) (n : Int) : Option S40 := if 0 ≤ n ∧ n < 1048576 then f n.toNat else none
theorem get_top (m : Nat) (h : m < 1048576) : m / 16 ^ (5 - 0) * 16 ^ (5 - 0) = 0 := by
  rw [Nat.div_eq_of_lt (by simpa using h), Nat.zero_mul]
theorem get_step (m r j : Nat) : m / 16 ^ (r + 2) * 16 ^ (r + 2) + (m / 16 ^ (r + 1) % 16 * 16 ^ (r + 1) + j) = m / 16 ^ (r + 1) * 16 ^ (r + 1) + j := by
  have e : 16 ^ (r + 2) = 16 ^ (r + 1) * 16 := Nat.pow_succ ..
  rw [e, ← Nat.div_div_eq_div_mul]
  generalize 16 ^ (r + 1) = B
  generalize m / B = x
  have h := Nat.div_add_mod x 16
  have h2 : x / 16 * (B * 16) = 16 * (x / 16) * B := by rw [Nat.mul_comm B 16, ← Nat.mul_assoc, Nat.mul_comm (x / 16) 16]
  rw [h2, ← Nat.add_assoc, ← Nat.add_mul, h]
theorem get_at (m r : Nat) : m / 16 ^ (r + 2) * 16 ^ (r + 2) + (m / 16 ^ (r + 1) % 16 * 16 ^ (r + 1) + m % 16 ^ (r + 1)) = m := by
  rw [get_step]
  exact Nat.div_add_mod' _ _
def GetPost (w0 w : World) (o : Option S40) : Ending → World → Prop := fun e w' => ∃ cs : Array Value, e = .returned (.tuple #[.agg cs, .bool o.isSome]) ∧ k40.K w0 (o.getD z40) cs.toList ∧ Below w.heap.size w w'
set_option maxHeartbeats 8000000 in
set_option maxRecDepth 100000 in
theorem get_calls (n : Int) (v : Value) (f : Nat → Option S40) (w0 w : World) (h : Trie w0 v f) (hbw : Below w0.heap.size w0 w) :
    Calls Try.prog 77 #[v, .int .i64 n] w (GetPost w0 w (look f n)) := by
  have HBW := Aside0.mk hbw
  obtain ⟨b, u, rfl, hb, hu, hT⟩ := h
  replace hb := blk_below hb hbw
  clear hbw
  obtain ⟨p, rfl⟩ : ∃ p, u = .pointer (some p) := by
    obtain ⟨q, rfl⟩ := hT.ptr
    cases q with
    | none => exact absurd rfl hu
    | some p => exact ⟨p, rfl⟩
  have HB := Aside0.mk hb
  have HT := Aside0.mk hT
  have hu114 := Try.underlying114
  have hu40 := Try.underlying40
  clear hu hT hb
  by_cases c0 : 0 ≤ n ∧ n < 1048576
  · obtain ⟨m, rfl⟩ : ∃ m : Nat, n = m := ⟨n.toNat, by omega⟩
    have hm : m < 1048576 := by omega
    have hlook : look f (m : Int) = f m := by unfold look; rw [if_pos c0]; simp
    rw [hlook]
    have d0 : decide ((m : Int) < 0) = false := decide_eq_false (by omega)
    have d1 : decide (1048576 ≤ (m : Int)) = false := decide_eq_false (by omega)
    have d2 : decide (1048576 ≤ m) = false := decide_eq_false (by omega)
    have HM := Aside0.mk hm
    clear c0 hm hlook
    go_enter Try.func77, Try.ntmps77
    go_wp2_with fail
    have HB0 : Aside0 (Below w.heap.size w ((w.alloc (.cells #[.int .i64 0, .string ⟨#[]⟩, .int .i64 0, .slice none 0 0, .slice none 0 0] 40)).alloc (.cells #[.int .i64 0, .string ⟨#[]⟩, .int .i64 0, .slice none 0 0, .slice none 0 0] 40))) := ⟨below_alloc (below_alloc (Below.refl _ _) _) _⟩
    have HG4 : Aside0 (((w.alloc (.cells #[.int .i64 0, .string ⟨#[]⟩, .int .i64 0, .slice none 0 0, .slice none 0 0] 40)).alloc (.cells #[.int .i64 0, .string ⟨#[]⟩, .int .i64 0, .slice none 0 0, .slice none 0 0] 40)).heap[w.heap.size]? = some (.cells #[.int .i64 0, .string ⟨#[]⟩, .int .i64 0, .slice none 0 0, .slice none 0 0] 40 (0, 0))) := ⟨blk_alloc (blk_new _ _) _⟩
    have HG6 : Aside0 (((w.alloc (.cells #[.int .i64 0, .string ⟨#[]⟩, .int .i64 0, .slice none 0 0, .slice none 0 0] 40)).alloc (.cells #[.int .i64 0, .string ⟨#[]⟩, .int .i64 0, .slice none 0 0, .slice none 0 0] 40)).heap[w.heap.size + 1]? = some (.cells #[.int .i64 0, .string ⟨#[]⟩, .int .i64 0, .slice none 0 0, .slice none 0 0] 40 (0, 0))) := ⟨heap_alloc2_new _ _ _⟩
    generalize ((w.alloc (.cells #[.int .i64 0, .string ⟨#[]⟩, .int .i64 0, .slice none 0 0, .slice none 0 0] 40)).alloc (.cells #[.int .i64 0, .string ⟨#[]⟩, .int .i64 0, .slice none 0 0, .slice none 0 0] 40)) = W0 at HB0 HG4 HG6 ⊢
    refine (made_calls b (.pointer (some p)) W0 p rfl (blk_below HB.out HB0.out)).mono ?_
    rintro e W1 ⟨rfl, hb1⟩
    have HB1 := Aside0.mk (below_then HB0.out HB0.out.size hb1)
    have HG41 := Aside0.mk (blk_below HG4.out hb1)
    have HG61 := Aside0.mk (blk_below HG6.out hb1)
    have hroot := blk_cell (blk_below HB.out HB1.out) 0
    clear hb1 HG4 HG6 HB0
    go_wp2_with fail
    go_loopg [7, 8] 5 (fun kq v7 v8 w' => ∃ (d : Nat) (q : Addr), v7 = .pointer (some q) ∧ v8 = .int .i64 d ∧ Aside0 (d + kq = 5) ∧ Aside0 (d ≤ 4) ∧ Aside0 (TN (4 - d) w0 (.pointer (some q)) (fun j => f (m / 16 ^ (5 - d) * 16 ^ (5 - d) + j))) ∧ Aside0 (w'.heap[w.heap.size]? = some (.cells #[.int .i64 0, .string ⟨#[]⟩, .int .i64 0, .slice none 0 0, .slice none 0 0] 40 (0, 0))) ∧ Aside0 (w'.heap[w.heap.size + 1]? = some (.cells #[.int .i64 0, .string ⟨#[]⟩, .int .i64 0, .slice none 0 0, .slice none 0 0] 40 (0, 0))) ∧ Aside0 (Below w.heap.size w w'))
    case atStart => exact ⟨0, p, rfl, rfl, ⟨by omega⟩, ⟨by omega⟩, ⟨TN.same 4 (fun j hj => by rw [get_top m HM.out]; simp) HT.out⟩, HG41, HG61, HB1⟩
    case round =>
      clear HT HB1 HG41 HG61 hroot HB
      obtain ⟨d, q, rfl, rfl, HD, HD4, HT, HG4, HG6, HB⟩ := hrel
      cases gk with
      | zero => exact absurd HD.out (by have := HD4.out; omega)
      | succ n =>
        obtain ⟨k, hk⟩ : ∃ k, k = m / 16 ^ (4 - d) % 16 := ⟨_, rfl⟩
        have hk16 : k < 16 := by rw [hk]; exact Nat.mod_lt _ (by decide)
        by_cases c : d < 4
        · obtain ⟨r, hr⟩ : ∃ r, 4 - d = r + 1 := ⟨3 - d, by omega⟩
          have hT := HT.out
          rw [hr] at hT
          rcases hT with ⟨e, _⟩ | ⟨g, cs, e, hB, hch⟩
          · cases e
          · injection e with e
            injection e with e
            subst e
            obtain ⟨⟨u, hu, hTu⟩, _⟩ := hch k hk16
            have hcell := (blk_cell (blk_below hB.1 (below_then HBW.out HBW.out.size HB.out)) k).trans hu
            have c1 : decide (d < 4) = true := decide_eq_true c
            have c2 : decide ((d : Int) < 4) = true := decide_eq_true (by omega)
            have q0 : (0 ≤ (k : Int)) = True := eq_true (by omega)
            have q1 : ((k : Int) < 16) = True := eq_true (by omega)
            have HN := Aside0.mk (And.intro c hk)
            have HTU := Aside0.mk hTu
            have HR := Aside0.mk hr
            have HCELL := Aside0.mk hcell
            obtain ⟨pu, rfl⟩ := hTu.ptr
            clear hch hu hTu hB c hk hr
            have HBLK := Aside0.mk (block_lt_of_cell hcell)
            cases pu with
            | some q2 =>
              go_wp2_with fail
              go_region_held3 (fun w' => w'.cell? ⟨g, k, none⟩ = some (.pointer (some q2))) (first | go_keep | exact pw_cell_below hbx hcell) (first | (go_at_call 100; refine (part_calls m d _ HM.out HD4.out).mono ?_; rintro e w1 ⟨rfl, hbx⟩; rw [← HN.out.2]) | fail)
              replace hbx := show Below wr.heap.size wr w1 from ⟨hbx.os, hbx.tape, hbx.output, hbx.size, hbx.block⟩
              have HBX := Aside0.mk hbx
              clear hbx hcell
              go_wp2_with fail
              go_roundg n
              case measure => have := HD.out; omega
              case rel =>
                refine ⟨d + 1, q2, rfl, (by simp; have := HN.out.1; unfold wrap64; omega), ⟨by have := HD.out; omega⟩, ⟨by have := HN.out.1; omega⟩, ⟨?_⟩, ⟨blk_below HG4.out HBX.out⟩, ⟨blk_below HG6.out HBX.out⟩, ⟨below_then HB.out HB.out.size HBX.out⟩⟩
                rw [show 4 - (d + 1) = r by have := HR.out; omega]
                refine TN.same r (fun j hj => ?_) HTU.out
                show f _ = f _
                congr 1
                have e1 : 5 - d = r + 2 := by have := HR.out; omega
                have e2 : 5 - (d + 1) = r + 1 := by have := HR.out; omega
                have e3 := HN.out.2
                rw [HR.out] at e3
                rw [e1, e2, e3]
                exact get_step m r j
            | none =>
              go_wp2_with fail
              go_region_held3 (fun w' => w'.cell? ⟨g, k, none⟩ = some (.pointer none)) (first | go_keep | exact pw_cell_below hbx hcell) (first | (go_at_call 100; refine (part_calls m d _ HM.out HD4.out).mono ?_; rintro e w1 ⟨rfl, hbx⟩; rw [← HN.out.2]) | fail)
              replace hbx := show Below wr.heap.size wr w1 from ⟨hbx.os, hbx.tape, hbx.output, hbx.size, hbx.block⟩
              have HBX := Aside0.mk hbx
              have HNONE : Aside0 (f m = none) := ⟨by
                have h := HTU.out
                have e := (TN.cells h).resolve_right (by rintro ⟨b, cs, e, _⟩; cases e)
                have e1 : 5 - d = r + 2 := by have := HR.out; omega
                have e3 := HN.out.2
                rw [HR.out] at e3
                have h2 := e.2 (m % 16 ^ (r + 1)) (Nat.mod_lt _ (Nat.pow_pos (by decide)))
                rw [e1, e3, get_at m r] at h2
                exact h2⟩
              have HG42 := Aside0.mk (blk_below HG4.out hbx)
              have HG62 := Aside0.mk (blk_below HG6.out hbx)
              have HB2 := Aside0.mk (below_then HB.out HB.out.size hbx)
              have c60 := (blk_cell HG62.out 0).trans (show _ = some _ from rfl)
              have c40 := (blk_cell HG42.out 0).trans (show _ = some _ from rfl)
              have y40 := blk_frozen HG42.out 0
              have c61 := (blk_cell HG62.out 1).trans (show _ = some _ from rfl)
              have c41 := (blk_cell HG42.out 1).trans (show _ = some _ from rfl)
              have y41 := blk_frozen HG42.out 1
              have c62 := (blk_cell HG62.out 2).trans (show _ = some _ from rfl)
              have c42 := (blk_cell HG42.out 2).trans (show _ = some _ from rfl)
              have y42 := blk_frozen HG42.out 2
              have c63 := (blk_cell HG62.out 3).trans (show _ = some _ from rfl)
              have c43 := (blk_cell HG42.out 3).trans (show _ = some _ from rfl)
              have y43 := blk_frozen HG42.out 3
              have c64 := (blk_cell HG62.out 4).trans (show _ = some _ from rfl)
              have c44 := (blk_cell HG42.out 4).trans (show _ = some _ from rfl)
              have y44 := blk_frozen HG42.out 4
              clear hbx hcell
              go_wp2_with fail
              refine bodyPost_ret (results_ct rfl _ _ (w.heap.size) 40 #[.int .i64 0, .string ⟨#[]⟩, .int .i64 0, .slice none 0 0, .slice none 0 0] (0, 0) _ rfl (by
                refine blk_put (cs := #[.int .i64 0, .string ⟨#[]⟩, .int .i64 0, .slice none 0 0, .slice none 0 0]) ?_ 4 _ rfl
                refine blk_put (cs := #[.int .i64 0, .string ⟨#[]⟩, .int .i64 0, .slice none 0 0, .slice none 0 0]) ?_ 3 _ rfl
                refine blk_put (cs := #[.int .i64 0, .string ⟨#[]⟩, .int .i64 0, .slice none 0 0, .slice none 0 0]) ?_ 2 _ rfl
                refine blk_put (cs := #[.int .i64 0, .string ⟨#[]⟩, .int .i64 0, .slice none 0 0, .slice none 0 0]) ?_ 1 _ rfl
                refine blk_put (cs := #[.int .i64 0, .string ⟨#[]⟩, .int .i64 0, .slice none 0 0, .slice none 0 0]) ?_ 0 _ rfl
                exact HG42.out) hu40 rfl (by kernel_rfl)) rfl ?_
              exact ⟨z56cells, by rw [HNONE.out]; rfl, by rw [HNONE.out]; exact z40_K _, (below_set (below_set (below_set (below_set (below_set HB2.out (by omega)) (by omega)) (by omega)) (by omega)) (by omega))⟩
        · obtain rfl : d = 4 := by have := HD4.out; omega
          have hT := HT.out
          rw [show 4 - 4 = 0 from rfl] at hT
          rcases hT with ⟨e, _⟩ | ⟨g, cs, e, hB, hch⟩
          · cases e
          · injection e with e
            injection e with e
            subst e
            obtain ⟨_, u, hu, hNV⟩ := hch k hk16
            have hcell := (blk_cell (blk_below hB.1 (below_then HBW.out HBW.out.size HB.out)) (16 + k)).trans hu
            have c1 : decide ((4 : Int) < 4) = false := rfl
            have q0 : (0 ≤ (k : Int)) = True := eq_true (by omega)
            have q1 : ((k : Int) < 16) = True := eq_true (by omega)
            have hfm : m / 16 ^ (5 - 4) * 16 ^ (5 - 4) + k = m := by
              rw [hk, show (16 : Nat) ^ (5 - 4) = 16 from rfl, show (16 : Nat) ^ (4 - 4) = 1 from rfl, Nat.div_one]
              have := Nat.div_add_mod m 16
              omega
            have hNV2 : NV w0 u (f m) := by
              have h : NV w0 u (f (m / 16 ^ (5 - 4) * 16 ^ (5 - 4) + k)) := hNV
              rwa [hfm] at h
            have HN := Aside0.mk hk
            have HNV := Aside0.mk hNV2
            obtain ⟨pu, rfl⟩ := hNV2.ptr
            clear hch hu hNV hNV2 hB c hk hfm
            cases pu with
            | none =>
              have HNONE : Aside0 (f m = none) := ⟨by rcases HNV.out with ⟨_, h⟩ | ⟨b, x, cs, e, _⟩; exact h; cases e⟩
              go_wp2_with fail
              go_region_held3 (fun w' => w'.cell? ⟨g, 16 + k, none⟩ = some (.pointer none)) (first | go_keep | exact pw_cell_below hbx hcell) (first | (go_at_call 100; refine (part_calls m 4 _ HM.out (Nat.le_refl _)).mono ?_; rintro e w1 ⟨rfl, hbx⟩; rw [← HN.out]) | fail)
              replace hbx := show Below wr.heap.size wr w1 from ⟨hbx.os, hbx.tape, hbx.output, hbx.size, hbx.block⟩
              have HG42 := Aside0.mk (blk_below HG4.out hbx)
              have HG62 := Aside0.mk (blk_below HG6.out hbx)
              have HB2 := Aside0.mk (below_then HB.out HB.out.size hbx)
              have c60 := (blk_cell HG62.out 0).trans (show _ = some _ from rfl)
              have c40 := (blk_cell HG42.out 0).trans (show _ = some _ from rfl)
              have y40 := blk_frozen HG42.out 0
              have c61 := (blk_cell HG62.out 1).trans (show _ = some _ from rfl)
              have c41 := (blk_cell HG42.out 1).trans (show _ = some _ from rfl)
              have y41 := blk_frozen HG42.out 1
              have c62 := (blk_cell HG62.out 2).trans (show _ = some _ from rfl)
              have c42 := (blk_cell HG42.out 2).trans (show _ = some _ from rfl)
              have y42 := blk_frozen HG42.out 2
              have c63 := (blk_cell HG62.out 3).trans (show _ = some _ from rfl)
              have c43 := (blk_cell HG42.out 3).trans (show _ = some _ from rfl)
              have y43 := blk_frozen HG42.out 3
              have c64 := (blk_cell HG62.out 4).trans (show _ = some _ from rfl)
              have c44 := (blk_cell HG42.out 4).trans (show _ = some _ from rfl)
              have y44 := blk_frozen HG42.out 4
              clear hbx hcell
              go_wp2_with fail
              refine bodyPost_ret (results_ct rfl _ _ (w.heap.size) 40 #[.int .i64 0, .string ⟨#[]⟩, .int .i64 0, .slice none 0 0, .slice none 0 0] (0, 0) _ rfl (by
                refine blk_put (cs := #[.int .i64 0, .string ⟨#[]⟩, .int .i64 0, .slice none 0 0, .slice none 0 0]) ?_ 4 _ rfl
                refine blk_put (cs := #[.int .i64 0, .string ⟨#[]⟩, .int .i64 0, .slice none 0 0, .slice none 0 0]) ?_ 3 _ rfl
                refine blk_put (cs := #[.int .i64 0, .string ⟨#[]⟩, .int .i64 0, .slice none 0 0, .slice none 0 0]) ?_ 2 _ rfl
                refine blk_put (cs := #[.int .i64 0, .string ⟨#[]⟩, .int .i64 0, .slice none 0 0, .slice none 0 0]) ?_ 1 _ rfl
                refine blk_put (cs := #[.int .i64 0, .string ⟨#[]⟩, .int .i64 0, .slice none 0 0, .slice none 0 0]) ?_ 0 _ rfl
                exact HG42.out) hu40 rfl (by kernel_rfl)) rfl ?_
              exact ⟨z56cells, by rw [HNONE.out]; rfl, by rw [HNONE.out]; exact z40_K _, (below_set (below_set (below_set (below_set (below_set HB2.out (by omega)) (by omega)) (by omega)) (by omega)) (by omega))⟩
            | some q2 =>
              obtain ⟨x, cs2, hq, hfx, hh, hK⟩ : ∃ x cs2, q2 = ⟨q2.block, 0, none⟩ ∧ f m = some x ∧ w0.heap[q2.block]? = some (.cells cs2 40 (0, 0)) ∧ k40.K w0 x cs2.toList := by
                rcases HNV.out with ⟨e, _⟩ | ⟨b, x, cs, e, hx, hh, hK⟩
                · cases e
                · injection e with e
                  injection e with e
                  subst e
                  exact ⟨x, cs, rfl, hx, hh, hK⟩
              obtain ⟨A3, c3, A4, c4, hcs, _⟩ := k40_open hK
              obtain ⟨lcs⟩ := cs2
              simp only at hcs
              subst hcs
              obtain ⟨b2, hb2⟩ : ∃ b2, b2 = q2.block := ⟨_, rfl⟩
              rw [← hb2] at hq hh
              subst hq
              have HX := Aside0.mk hfx
              have HK := Aside0.mk hK
              have HH := Aside0.mk hh
              clear hfx hK hh hb2
              go_wp2_with fail
              go_region_held3 (fun w' => w'.cell? ⟨g, 16 + k, none⟩ = some (.pointer (some ⟨b2, 0, none⟩))) (first | go_keep | exact pw_cell_below hbx hcell) (first | (go_at_call 100; refine (part_calls m 4 _ HM.out (Nat.le_refl _)).mono ?_; rintro e w1 ⟨rfl, hbx⟩; rw [← HN.out]) | fail)
              replace hbx := show Below wr.heap.size wr w1 from ⟨hbx.os, hbx.tape, hbx.output, hbx.size, hbx.block⟩
              have HG42 := Aside0.mk (blk_below HG4.out hbx)
              have HG62 := Aside0.mk (blk_below HG6.out hbx)
              have HH2 := Aside0.mk (blk_below HH.out (below_then HBW.out HBW.out.size (below_then HB.out HB.out.size hbx)))
              have HB2 := Aside0.mk (below_then HB.out HB.out.size hbx)
              have c50 := (blk_cell HH2.out 0).trans (show _ = some _ from rfl)
              have c40 := (blk_cell HG42.out 0).trans (show _ = some _ from rfl)
              have y40 := blk_frozen HG42.out 0
              have c51 := (blk_cell HH2.out 1).trans (show _ = some _ from rfl)
              have c41 := (blk_cell HG42.out 1).trans (show _ = some _ from rfl)
              have y41 := blk_frozen HG42.out 1
              have c52 := (blk_cell HH2.out 2).trans (show _ = some _ from rfl)
              have c42 := (blk_cell HG42.out 2).trans (show _ = some _ from rfl)
              have y42 := blk_frozen HG42.out 2
              have c53 := (blk_cell HH2.out 3).trans (show _ = some _ from rfl)
              have c43 := (blk_cell HG42.out 3).trans (show _ = some _ from rfl)
              have y43 := blk_frozen HG42.out 3
              have c54 := (blk_cell HH2.out 4).trans (show _ = some _ from rfl)
              have c44 := (blk_cell HG42.out 4).trans (show _ = some _ from rfl)
              have y44 := blk_frozen HG42.out 4
              clear hbx hcell
              go_wp2_with fail
              refine bodyPost_ret (results_ct rfl _ _ (w.heap.size) 40 #[.int .i64 x.f0, .string x.f1, .int .i64 x.f2, .slice A3 x.f3.length c3, .slice A4 x.f4.length c4] (0, 0) _ rfl (by
                refine blk_put (cs := #[.int .i64 x.f0, .string x.f1, .int .i64 x.f2, .slice A3 x.f3.length c3, .slice none 0 0]) ?_ 4 _ rfl
                refine blk_put (cs := #[.int .i64 x.f0, .string x.f1, .int .i64 x.f2, .slice none 0 0, .slice none 0 0]) ?_ 3 _ rfl
                refine blk_put (cs := #[.int .i64 x.f0, .string x.f1, .int .i64 0, .slice none 0 0, .slice none 0 0]) ?_ 2 _ rfl
                refine blk_put (cs := #[.int .i64 x.f0, .string ⟨#[]⟩, .int .i64 0, .slice none 0 0, .slice none 0 0]) ?_ 1 _ rfl
                refine blk_put (cs := #[.int .i64 0, .string ⟨#[]⟩, .int .i64 0, .slice none 0 0, .slice none 0 0]) ?_ 0 _ rfl
                exact HG42.out) hu40 rfl (by kernel_rfl)) rfl ?_
              exact ⟨_, by rw [HX.out]; rfl, by rw [HX.out]; exact HK.out, (below_set (below_set (below_set (below_set (below_set HB2.out (by omega)) (by omega)) (by omega)) (by omega)) (by omega))⟩
  · have hlook : look f n = none := by unfold look; rw [if_neg c0]
    rw [hlook]
    by_cases c1 : n < 0
    · have d0 : decide (n < 0) = true := decide_eq_true c1
      clear c0 hlook
      go_enter Try.func77, Try.ntmps77
      go_wp2_with fail
      have HB0 : Aside0 (Below w.heap.size w ((w.alloc (.cells #[.int .i64 0, .string ⟨#[]⟩, .int .i64 0, .slice none 0 0, .slice none 0 0] 40)).alloc (.cells #[.int .i64 0, .string ⟨#[]⟩, .int .i64 0, .slice none 0 0, .slice none 0 0] 40))) := ⟨below_alloc (below_alloc (Below.refl _ _) _) _⟩
      have HG4 : Aside0 (((w.alloc (.cells #[.int .i64 0, .string ⟨#[]⟩, .int .i64 0, .slice none 0 0, .slice none 0 0] 40)).alloc (.cells #[.int .i64 0, .string ⟨#[]⟩, .int .i64 0, .slice none 0 0, .slice none 0 0] 40)).heap[w.heap.size]? = some (.cells #[.int .i64 0, .string ⟨#[]⟩, .int .i64 0, .slice none 0 0, .slice none 0 0] 40 (0, 0))) := ⟨blk_alloc (blk_new _ _) _⟩
      have HG6 : Aside0 (((w.alloc (.cells #[.int .i64 0, .string ⟨#[]⟩, .int .i64 0, .slice none 0 0, .slice none 0 0] 40)).alloc (.cells #[.int .i64 0, .string ⟨#[]⟩, .int .i64 0, .slice none 0 0, .slice none 0 0] 40)).heap[w.heap.size + 1]? = some (.cells #[.int .i64 0, .string ⟨#[]⟩, .int .i64 0, .slice none 0 0, .slice none 0 0] 40 (0, 0))) := ⟨heap_alloc2_new _ _ _⟩
      generalize ((w.alloc (.cells #[.int .i64 0, .string ⟨#[]⟩, .int .i64 0, .slice none 0 0, .slice none 0 0] 40)).alloc (.cells #[.int .i64 0, .string ⟨#[]⟩, .int .i64 0, .slice none 0 0, .slice none 0 0] 40)) = W0 at HB0 HG4 HG6 ⊢
      refine (made_calls b (.pointer (some p)) W0 p rfl (blk_below HB.out HB0.out)).mono ?_
      rintro e W1 ⟨rfl, hb1⟩
      have HB1 := Aside0.mk (below_then HB0.out HB0.out.size hb1)
      have HG41 := Aside0.mk (blk_below HG4.out hb1)
      have HG61 := Aside0.mk (blk_below HG6.out hb1)
      have c60 := (blk_cell HG61.out 0).trans (show _ = some _ from rfl)
      have c40 := (blk_cell HG41.out 0).trans (show _ = some _ from rfl)
      have y40 := blk_frozen HG41.out 0
      have c61 := (blk_cell HG61.out 1).trans (show _ = some _ from rfl)
      have c41 := (blk_cell HG41.out 1).trans (show _ = some _ from rfl)
      have y41 := blk_frozen HG41.out 1
      have c62 := (blk_cell HG61.out 2).trans (show _ = some _ from rfl)
      have c42 := (blk_cell HG41.out 2).trans (show _ = some _ from rfl)
      have y42 := blk_frozen HG41.out 2
      have c63 := (blk_cell HG61.out 3).trans (show _ = some _ from rfl)
      have c43 := (blk_cell HG41.out 3).trans (show _ = some _ from rfl)
      have y43 := blk_frozen HG41.out 3
      have c64 := (blk_cell HG61.out 4).trans (show _ = some _ from rfl)
      have c44 := (blk_cell HG41.out 4).trans (show _ = some _ from rfl)
      have y44 := blk_frozen HG41.out 4
      clear hb1
      go_wp2_with fail
      refine bodyPost_ret (results_ct rfl _ _ (w.heap.size) 40 #[.int .i64 0, .string ⟨#[]⟩, .int .i64 0, .slice none 0 0, .slice none 0 0] (0, 0) _ rfl (by
        refine blk_put (cs := #[.int .i64 0, .string ⟨#[]⟩, .int .i64 0, .slice none 0 0, .slice none 0 0]) ?_ 4 _ rfl
        refine blk_put (cs := #[.int .i64 0, .string ⟨#[]⟩, .int .i64 0, .slice none 0 0, .slice none 0 0]) ?_ 3 _ rfl
        refine blk_put (cs := #[.int .i64 0, .string ⟨#[]⟩, .int .i64 0, .slice none 0 0, .slice none 0 0]) ?_ 2 _ rfl
        refine blk_put (cs := #[.int .i64 0, .string ⟨#[]⟩, .int .i64 0, .slice none 0 0, .slice none 0 0]) ?_ 1 _ rfl
        refine blk_put (cs := #[.int .i64 0, .string ⟨#[]⟩, .int .i64 0, .slice none 0 0, .slice none 0 0]) ?_ 0 _ rfl
        exact HG41.out) hu40 rfl (by kernel_rfl)) rfl ?_
      exact ⟨z56cells, rfl, z40_K _, (below_set (below_set (below_set (below_set (below_set HB1.out (by omega)) (by omega)) (by omega)) (by omega)) (by omega))⟩
    · have d0 : decide (n < 0) = false := decide_eq_false c1
      have d1 : decide (1048576 ≤ n) = true := decide_eq_true (by omega)
      clear c0 hlook
      go_enter Try.func77, Try.ntmps77
      go_wp2_with fail
      have HB0 : Aside0 (Below w.heap.size w ((w.alloc (.cells #[.int .i64 0, .string ⟨#[]⟩, .int .i64 0, .slice none 0 0, .slice none 0 0] 40)).alloc (.cells #[.int .i64 0, .string ⟨#[]⟩, .int .i64 0, .slice none 0 0, .slice none 0 0] 40))) := ⟨below_alloc (below_alloc (Below.refl _ _) _) _⟩
      have HG4 : Aside0 (((w.alloc (.cells #[.int .i64 0, .string ⟨#[]⟩, .int .i64 0, .slice none 0 0, .slice none 0 0] 40)).alloc (.cells #[.int .i64 0, .string ⟨#[]⟩, .int .i64 0, .slice none 0 0, .slice none 0 0] 40)).heap[w.heap.size]? = some (.cells #[.int .i64 0, .string ⟨#[]⟩, .int .i64 0, .slice none 0 0, .slice none 0 0] 40 (0, 0))) := ⟨blk_alloc (blk_new _ _) _⟩
      have HG6 : Aside0 (((w.alloc (.cells #[.int .i64 0, .string ⟨#[]⟩, .int .i64 0, .slice none 0 0, .slice none 0 0] 40)).alloc (.cells #[.int .i64 0, .string ⟨#[]⟩, .int .i64 0, .slice none 0 0, .slice none 0 0] 40)).heap[w.heap.size + 1]? = some (.cells #[.int .i64 0, .string ⟨#[]⟩, .int .i64 0, .slice none 0 0, .slice none 0 0] 40 (0, 0))) := ⟨heap_alloc2_new _ _ _⟩
      generalize ((w.alloc (.cells #[.int .i64 0, .string ⟨#[]⟩, .int .i64 0, .slice none 0 0, .slice none 0 0] 40)).alloc (.cells #[.int .i64 0, .string ⟨#[]⟩, .int .i64 0, .slice none 0 0, .slice none 0 0] 40)) = W0 at HB0 HG4 HG6 ⊢
      refine (made_calls b (.pointer (some p)) W0 p rfl (blk_below HB.out HB0.out)).mono ?_
      rintro e W1 ⟨rfl, hb1⟩
      have HB1 := Aside0.mk (below_then HB0.out HB0.out.size hb1)
      have HG41 := Aside0.mk (blk_below HG4.out hb1)
      have HG61 := Aside0.mk (blk_below HG6.out hb1)
      have c60 := (blk_cell HG61.out 0).trans (show _ = some _ from rfl)
      have c40 := (blk_cell HG41.out 0).trans (show _ = some _ from rfl)
      have y40 := blk_frozen HG41.out 0
      have c61 := (blk_cell HG61.out 1).trans (show _ = some _ from rfl)
      have c41 := (blk_cell HG41.out 1).trans (show _ = some _ from rfl)
      have y41 := blk_frozen HG41.out 1
      have c62 := (blk_cell HG61.out 2).trans (show _ = some _ from rfl)
      have c42 := (blk_cell HG41.out 2).trans (show _ = some _ from rfl)
      have y42 := blk_frozen HG41.out 2
      have c63 := (blk_cell HG61.out 3).trans (show _ = some _ from rfl)
      have c43 := (blk_cell HG41.out 3).trans (show _ = some _ from rfl)
      have y43 := blk_frozen HG41.out 3
      have c64 := (blk_cell HG61.out 4).trans (show _ = some _ from rfl)
      have c44 := (blk_cell HG41.out 4).trans (show _ = some _ from rfl)
      have y44 := blk_frozen HG41.out 4
      clear hb1
      go_wp2_with fail
      refine bodyPost_ret (results_ct rfl _ _ (w.heap.size) 40 #[.int .i64 0, .string ⟨#[]⟩, .int .i64 0, .slice none 0 0, .slice none 0 0] (0, 0) _ rfl (by
        refine blk_put (cs := #[.int .i64 0, .string ⟨#[]⟩, .int .i64 0, .slice none 0 0, .slice none 0 0]) ?_ 4 _ rfl
        refine blk_put (cs := #[.int .i64 0, .string ⟨#[]⟩, .int .i64 0, .slice none 0 0, .slice none 0 0]) ?_ 3 _ rfl
        refine blk_put (cs := #[.int .i64 0, .string ⟨#[]⟩, .int .i64 0, .slice none 0 0, .slice none 0 0]) ?_ 2 _ rfl
        refine blk_put (cs := #[.int .i64 0, .string ⟨#[]⟩, .int .i64 0, .slice none 0 0, .slice none 0 0]) ?_ 1 _ rfl
        refine blk_put (cs := #[.int .i64 0, .string ⟨#[]⟩, .int .i64 0, .slice none 0 0, .slice none 0 0]) ?_ 0 _ rfl
        exact HG41.out) hu40 rfl (by kernel_rfl)) rfl ?_
      exact ⟨z56cells, rfl, z40_K _, (below_set (below_set (below_set (below_set (below_set HB1.out (by omega)) (by omega)) (by omega)) (by omega)) (by omega))⟩
end Go.Proofs.Ytpnlbmeeihbjaaa.P
end
section
set_option linter.unusedVariables false
set_option linter.unusedSimpArgs false
namespace Go.Proofs.Ytpnlbmeeihbjaaa.P
open Go.RowKit Go.Proofs.YtpnlbmeeihbjaaaW.PrintWords Go.Proofs.YtpnlbmeeihbjaaaW.PrintLast Go.Proofs.YtpnlbmeeihbjaaaW.PrintMore
set_option linter.unusedVariables false
def NF (ok : Nat → Prop) (w : World) (v : Value) (o : Option S40) : Prop :=
  (v = .pointer none ∧ o = none) ∨ ∃ b x cs, v = .pointer (some ⟨b, 0, none⟩) ∧ o = some x ∧ ok b ∧ w.heap[b]? = some (.cells cs 40 (0, 0)) ∧ Kd.FK k40 w ok x cs.toList
def TF (ok : Nat → Prop) : Nat → World → Value → (Nat → Option S40) → Prop
  | 0, w, v, f => (v = .pointer none ∧ ∀ j, j < 16 → f j = none) ∨ ∃ b cs, v = .pointer (some ⟨b, 0, none⟩) ∧ ok b ∧ Blk w b cs (cnt 16 f) ∧ ∀ k, k < 16 → cs[k]? = some (.pointer none) ∧ ∃ u, cs[16 + k]? = some u ∧ NF ok w u (f k)
  | r + 1, w, v, f => (v = .pointer none ∧ ∀ j, j < 16 ^ (r + 2) → f j = none) ∨ ∃ b cs, v = .pointer (some ⟨b, 0, none⟩) ∧ ok b ∧ Blk w b cs (cnt (16 ^ (r + 2)) f) ∧
      ∀ k, k < 16 → (∃ u, cs[k]? = some u ∧ TF ok r w u (fun j => f (k * 16 ^ (r + 1) + j))) ∧ cs[16 + k]? = some (.pointer none)
def KF (ok : Nat → Prop) : Nat → World → Array Value → (Nat → Option S40) → Prop
  | 0, w, cs, f => ∀ k, k < 16 → cs[k]? = some (.pointer none) ∧ ∃ u, cs[16 + k]? = some u ∧ NF ok w u (f k)
  | r + 1, w, cs, f => ∀ k, k < 16 → (∃ u, cs[k]? = some u ∧ TF ok r w u (fun j => f (k * 16 ^ (r + 1) + j))) ∧ cs[16 + k]? = some (.pointer none)
theorem blk_step {ok : Nat → Prop} {w w1 : World} {b : Nat} {o : Obj} (hs : ∀ k, ok k → k < w.heap.size → w1.heap[k]? = w.heap[k]?) (hb : ok b) (h : w.heap[b]? = some o) : w1.heap[b]? = some o := (hs b hb (blk_lt h)).trans h
theorem NF.step {ok ok' : Nat → Prop} {w w1 : World} (hs : ∀ k, ok k → k < w.heap.size → w1.heap[k]? = w.heap[k]?) (hk : ∀ k, ok k → ok' k) {v : Value} {o : Option S40} (h : NF ok w v o) : NF ok' w1 v o := by
  rcases h with h | ⟨b, x, cs, e1, e2, hb, hh, hK⟩
  · exact .inl h
  · exact .inr ⟨b, x, cs, e1, e2, hk b hb, blk_step hs hb hh, Kd.FK_mono (Kd.FK_step hK hs) hk⟩
theorem TF.step {ok ok' : Nat → Prop} {w w1 : World} (hs : ∀ k, ok k → k < w.heap.size → w1.heap[k]? = w.heap[k]?) (hk : ∀ k, ok k → ok' k) : ∀ (r : Nat) {v : Value} {f : Nat → Option S40}, TF ok r w v f → TF ok' r w1 v f
  | 0, v, f, h => by
    rcases h with h | ⟨b, cs, e, ho, hB, hc⟩
    · exact .inl h
    · exact .inr ⟨b, cs, e, hk b ho, ⟨blk_step hs ho hB.1, hB.2⟩, fun k hlt => ⟨(hc k hlt).1, let ⟨u, hu, hn⟩ := (hc k hlt).2; ⟨u, hu, hn.step hs hk⟩⟩⟩
  | r + 1, v, f, h => by
    rcases h with h | ⟨b, cs, e, ho, hB, hc⟩
    · exact .inl h
    · exact .inr ⟨b, cs, e, hk b ho, ⟨blk_step hs ho hB.1, hB.2⟩, fun k hlt => ⟨let ⟨u, hu, hn⟩ := (hc k hlt).1; ⟨u, hu, TF.step hs hk r hn⟩, (hc k hlt).2⟩⟩
theorem KF.step {ok ok' : Nat → Prop} {w w1 : World} (hs : ∀ k, ok k → k < w.heap.size → w1.heap[k]? = w.heap[k]?) (hk : ∀ k, ok k → ok' k) : ∀ {r : Nat} {cs : Array Value} {f : Nat → Option S40}, KF ok r w cs f → KF ok' r w1 cs f
  | 0, _, _, h => fun k hlt => ⟨(h k hlt).1, let ⟨u, hu, hn⟩ := (h k hlt).2; ⟨u, hu, hn.step hs hk⟩⟩
  | r + 1, _, _, h => fun k hlt => ⟨let ⟨u, hu, hn⟩ := (h k hlt).1; ⟨u, hu, TF.step hs hk r hn⟩, (h k hlt).2⟩
theorem NF.nv {ok : Nat → Prop} {w : World} {v : Value} {o : Option S40} (h : NF ok w v o) : NV w v o := by
  rcases h with h | ⟨b, x, cs, e1, e2, hb, hh, hK⟩
  · exact .inl h
  · exact .inr ⟨b, x, cs, e1, e2, hh, Kd.FK_now hK⟩
theorem TF.tn {ok : Nat → Prop} {w : World} : ∀ (r : Nat) {v : Value} {f : Nat → Option S40}, TF ok r w v f → TN r w v f
  | 0, v, f, h => by
    rcases h with h | ⟨b, cs, e, ho, hB, hc⟩
    · exact .inl h
    · exact .inr ⟨b, cs, e, hB, fun k hlt => ⟨(hc k hlt).1, let ⟨u, hu, hn⟩ := (hc k hlt).2; ⟨u, hu, hn.nv⟩⟩⟩
  | r + 1, v, f, h => by
    rcases h with h | ⟨b, cs, e, ho, hB, hc⟩
    · exact .inl h
    · exact .inr ⟨b, cs, e, hB, fun k hlt => ⟨let ⟨u, hu, hn⟩ := (hc k hlt).1; ⟨u, hu, TF.tn r hn⟩, (hc k hlt).2⟩⟩
theorem kid_lt {k j r : Nat} (hk : k < 16) (hj : j < 16 ^ (r + 1)) : k * 16 ^ (r + 1) + j < 16 ^ (r + 2) := by
  have h1 := Nat.mul_le_mul_right (16 ^ (r + 1)) (show k + 1 ≤ 16 by omega)
  rw [Nat.add_mul] at h1
  rw [Nat.pow_succ _ (r + 1)]; omega
theorem TF.same {ok : Nat → Prop} {w : World} : ∀ (r : Nat) {v : Value} {f g : Nat → Option S40}, (∀ j, j < 16 ^ (r + 1) → f j = g j) → TF ok r w v f → TF ok r w v g
  | 0, v, f, g, hfg, h => by
    rcases h with ⟨e, h⟩ | ⟨b, cs, e, ho, hB, hk⟩
    · exact .inl ⟨e, fun j hj => (hfg j (by simpa using hj)).symm.trans (h j hj)⟩
    · refine .inr ⟨b, cs, e, ho, by rw [cnt_same 16 g f (fun j hj => (hfg j (by simpa using hj)).symm)]; exact hB, fun k hlt => ⟨(hk k hlt).1, ?_⟩⟩
      obtain ⟨u, hu, hn⟩ := (hk k hlt).2
      exact ⟨u, hu, (hfg k (by simpa using hlt)) ▸ hn⟩
  | r + 1, v, f, g, hfg, h => by
    rcases h with ⟨e, h⟩ | ⟨b, cs, e, ho, hB, hk⟩
    · exact .inl ⟨e, fun j hj => (hfg j hj).symm.trans (h j hj)⟩
    · refine .inr ⟨b, cs, e, ho, by rw [cnt_same _ g f (fun j hj => (hfg j hj).symm)]; exact hB, fun k hlt => ⟨?_, (hk k hlt).2⟩⟩
      obtain ⟨u, hu, hn⟩ := (hk k hlt).1
      exact ⟨u, hu, TF.same r (fun j hj => hfg _ (kid_lt hlt hj)) hn⟩
theorem TF.nil {ok : Nat → Prop} {w : World} : ∀ (r : Nat) {f : Nat → Option S40}, (∀ j, j < 16 ^ (r + 1) → f j = none) → TF ok r w (.pointer none) f
  | 0, _, h => .inl ⟨rfl, fun j hj => h j (by simpa using hj)⟩
  | _ + 1, _, h => .inl ⟨rfl, h⟩
theorem TF.node {ok : Nat → Prop} {w : World} : ∀ {r : Nat} {v : Value} {f : Nat → Option S40}, TF ok r w v f → (v = .pointer none ∧ ∀ j, j < 16 ^ (r + 1) → f j = none) ∨
    ∃ b cs, v = .pointer (some ⟨b, 0, none⟩) ∧ ok b ∧ Blk w b cs (cnt (16 ^ (r + 1)) f) ∧ KF ok r w cs f
  | 0, v, f, h => by
    rcases h with ⟨e, h⟩ | ⟨b, cs, e, ho, hB, hk⟩
    · exact .inl ⟨e, fun j hj => h j (by simpa using hj)⟩
    · exact .inr ⟨b, cs, e, ho, hB, hk⟩
  | r + 1, v, f, h => by
    rcases h with ⟨e, h⟩ | ⟨b, cs, e, ho, hB, hk⟩
    · exact .inl ⟨e, h⟩
    · exact .inr ⟨b, cs, e, ho, hB, hk⟩
theorem TF.mk {ok : Nat → Prop} {w : World} : ∀ {r : Nat} {b : Nat} {cs : Array Value} {f : Nat → Option S40}, ok b → Blk w b cs (cnt (16 ^ (r + 1)) f) → KF ok r w cs f → TF ok r w (.pointer (some ⟨b, 0, none⟩)) f
  | 0, b, cs, f, ho, hB, hk => .inr ⟨b, cs, rfl, ho, hB, hk⟩
  | r + 1, b, cs, f, ho, hB, hk => .inr ⟨b, cs, rfl, ho, hB, hk⟩
theorem KF.ptrs {ok : Nat → Prop} {w : World} : ∀ {r : Nat} {cs : Array Value} {f : Nat → Option S40}, KF ok r w cs f → Ptrs cs
  | 0, cs, f, h => fun k hlt => by
    by_cases c : k < 16
    · exact ⟨none, (h k c).1⟩
    · obtain ⟨u, hu, hn⟩ := (h (k - 16) (by omega)).2
      obtain ⟨p, rfl⟩ := hn.nv.ptr
      exact ⟨p, by rw [show k = 16 + (k - 16) by omega]; exact hu⟩
  | r + 1, cs, f, h => fun k hlt => by
    by_cases c : k < 16
    · obtain ⟨u, hu, hn⟩ := (h k c).1
      obtain ⟨p, rfl⟩ := (TF.tn r hn).ptr
      exact ⟨p, hu⟩
    · exact ⟨none, by have := (h (k - 16) (by omega)).2; rwa [show 16 + (k - 16) = k by omega] at this⟩
theorem KF.zeros (ok : Nat → Prop) (w : World) : ∀ (r : Nat) {f : Nat → Option S40}, (∀ j, j < 16 ^ (r + 1) → f j = none) → KF ok r w zeros33 f
  | 0, f, h => fun k hk => ⟨zeros33_at k (by omega), _, zeros33_at _ (by omega), .inl ⟨rfl, h k (by simpa using hk)⟩⟩
  | r + 1, f, h => fun k hk => ⟨⟨_, zeros33_at k (by omega), TF.nil r (fun j hj => h _ (kid_lt hk hj))⟩, zeros33_at _ (by omega)⟩
theorem KF.cells {ok : Nat → Prop} {w : World} : ∀ {r : Nat} {cs cs' : Array Value} {f : Nat → Option S40}, (∀ k, k < 32 → cs'[k]? = cs[k]?) → KF ok r w cs f → KF ok r w cs' f
  | 0, cs, cs', f, hc, h => fun k hk => ⟨(hc k (by omega)).trans (h k hk).1, let ⟨u, hu, hn⟩ := (h k hk).2; ⟨u, (hc _ (by omega)).trans hu, hn⟩⟩
  | r + 1, cs, cs', f, hc, h => fun k hk => ⟨let ⟨u, hu, hn⟩ := (h k hk).1; ⟨u, (hc _ (by omega)).trans hu, hn⟩, (hc _ (by omega)).trans (h k hk).2⟩
end Go.Proofs.Ytpnlbmeeihbjaaa.P
end
section
set_option linter.unusedVariables false
set_option linter.unusedSimpArgs false
namespace Go.Proofs.Ytpnlbmeeihbjaaa.P
open Go.RowKit Go.Proofs.YtpnlbmeeihbjaaaW.PrintWords Go.Proofs.YtpnlbmeeihbjaaaW.PrintLast Go.Proofs.YtpnlbmeeihbjaaaW.PrintMore
attribute [local go_sem] max2_int min2_int max_two min_two max_three min_three max_four min_four
set_option linter.unusedVariables false
set_option linter.unusedSimpArgs false
theorem slice_nil_in {P : Program} (d : Nat) (t e : TypeId) (A : Option Addr) (n c : Nat) (w : World) (ht : P.underlying t = some (.slice e)) : (Op.equalIn (d + 1) t (.slice A n c) (.slice none 0 0)).run P w = .ok A.isNone w := by
  cases A <;> simp [Op.equalIn, run_underlying ht]
theorem slice_nil_eq {P : Program} (t e : TypeId) (A : Option Addr) (n c : Nat) (w : World) (ht : P.underlying t = some (.slice e)) : (Op.equal t (.slice A n c) (.slice none 0 0)).run P w = .ok A.isNone w := slice_nil_in 9999 t e A n c w ht
theorem slice_nil {P : Program} (t e : TypeId) (ht : P.underlying t = some (.slice e)) (A : Option Addr) (n c : Nat) (w : World) : (binOp .eql t (.slice A n c) (.slice none 0 0)).run P w = .ok (.bool A.isNone) w := by
  simp only [binOp]
  simp [slice_nil_eq t e A n c w ht]
set_option maxHeartbeats 8000000 in
set_option maxRecDepth 100000 in
theorem clone_calls (l : List Int) (A : Option Addr) (c : Nat) (w : World) (hC : Kd.C (Kd.int .i64) w A l.length l) (hc : l.length ≤ c) (hl : l.length ≤ 1099511627776) :
    Calls Try.prog 42 #[.slice A l.length c] w fun e w' => ∃ v, e = .returned v ∧ Kd.R (Kd.int .i64) 3 w' w.heap.size (fun _ => True) v l ∧ Below w.heap.size w w' := by
  have HC := Aside0.mk hC
  have HL := Aside0.mk (And.intro hc hl)
  have hnil := fun (A : Option Addr) n c w => slice_nil (P := Try.prog) 29 3 Try.underlying29 A n c w
  clear hC hc hl
  cases A with
  | none =>
    have HN : Aside0 (l = []) := ⟨by
      cases l with
      | nil => rfl
      | cons x xs => obtain ⟨ad, e, _⟩ := HC.out.2.2 (by simp); cases e⟩
    go_enter Try.func42, Try.ntmps42
    go_wp2_with fail
    go_ret
    exact ⟨_, rfl, by rw [HN.out]; exact Kd.R_nil _ _ _ _ _, Below.refl _ _⟩
  | some ad =>
    go_enter Try.func42, Try.ntmps42
    go_wp2_with (first
      | ((with_reducible refine gate_dst (N := 5) rfl ?_); refine Kd.R_lit (Kd.int .i64) _ 3 ?hg (N := 5) ?hd (xs := ([] : List Int)) (inner := []) (ok := fun _ => True) (okp := fun _ => True) ?hr ?hp (fun _ hk => hk) trivial (Below.refl _ _) (Nat.le_refl _) (by simp) ?_; (case hd => rfl); (case hg => rfl); (case hr => first | (go_simp; done) | (go_simp; rfl)); (case hp => exact ⟨rfl, fun j p hj => by simp at hj⟩); intro v5 w5 hR hb5 hg5 hown; have HR5 := Aside0.mk hR; have HB5 := Aside0.mk hb5; clear hR hb5 hg5 hown)
      | ((with_reducible refine gate_builtin (b := .append) rfl ?_); at_builtin; refine Kd.R_append_row (w0 := w) (Value.int .i64) (0 : Int) (h1 := fun _ => rfl) w.heap.size rfl (.tmp 5) (.tmp 6) 29 3 (.int .i64 0) 8 rfl Try.underlying29 info3 rfl (by decide) v5 [] l (some ad) l.length c (fun _ => True) rfl rfl (fun _ _ => trivial) HR5.out (Kd.C_below HC.out HB5.out) HB5.out HB5.out.size (by have := HL.out.2; simp; omega) ?_; intro v7 w7 hR hb7 _ _; have HR7 := Aside0.mk hR; have HB7 := Aside0.mk hb7; clear hR hb7)
      | fail)
    go_ret
    exact ⟨_, rfl, HR7.out, HB7.out⟩
theorem info70_ : (Try.prog.info? 70).map (fun i => (i.zero, i.size, i.bytes)) = some (some (.agg #[(.string ⟨#[]⟩), (.string ⟨#[]⟩)]), 2, 32) := by kernel_rfl
theorem k70_M {w : World} {w' : World} {base : Nat} {ok : Nat → Prop} {x : S70} {cs : List Value} (h : k70.K w x cs) : k70.M w' base ok x cs := by
  rw [k70_open h]; exact k70_mkM _ _ _ x
set_option maxHeartbeats 8000000 in
set_option maxRecDepth 100000 in
theorem cloneA_calls (l : List S70) (A : Option Addr) (c : Nat) (w : World) (hC : Kd.C k70 w A l.length l) (hc : l.length ≤ c) (hl : l.length ≤ 1099511627776) :
    Calls Try.prog 43 #[.slice A l.length c] w fun e w' => ∃ v, e = .returned v ∧ Kd.R k70 70 w' w.heap.size (fun _ => True) v l ∧ Below w.heap.size w w' := by
  have HC := Aside0.mk hC
  have HL := Aside0.mk (And.intro hc hl)
  have hnil := fun (A : Option Addr) n c w => slice_nil (P := Try.prog) 38 70 Try.underlying38 A n c w
  clear hC hc hl
  cases A with
  | none =>
    have HN : Aside0 (l = []) := ⟨by
      cases l with
      | nil => rfl
      | cons x xs => obtain ⟨ad, e, _⟩ := HC.out.2.2 (by simp); cases e⟩
    go_enter Try.func43, Try.ntmps43
    go_wp2_with fail
    go_ret
    exact ⟨_, rfl, by rw [HN.out]; exact Kd.R_nil _ _ _ _ _, Below.refl _ _⟩
  | some ad =>
    go_enter Try.func43, Try.ntmps43
    go_wp2_with (first
      | ((with_reducible refine gate_dst (N := 5) rfl ?_); refine Kd.R_lit k70 _ 70 ?hg (N := 5) ?hd (xs := ([] : List S70)) (inner := []) (ok := fun _ => True) (okp := fun _ => True) ?hr ?hp (fun _ hk => hk) trivial (Below.refl _ _) (Nat.le_refl _) (by simp) ?_; (case hd => rfl); (case hg => rfl); (case hr => first | (go_simp; done) | (go_simp; rfl)); (case hp => exact ⟨rfl, fun j p hj => by simp at hj⟩); intro v5 w5 hR hb5 hg5 hown; have HR5 := Aside0.mk hR; have HB5 := Aside0.mk hb5; clear hR hb5 hg5 hown)
      | ((with_reducible refine gate_builtin (b := .append) rfl ?_); at_builtin; refine Kd.R_append_rows k70 (w0 := w) w.heap.size rfl (.tmp 5) (.tmp 6) 38 70 (.agg #[(.string ⟨#[]⟩), (.string ⟨#[]⟩)]) 32 rfl Try.underlying38 info70_ rfl (by decide) (by decide) v5 [] l (some ad) l.length c (fun _ => True) (fun _ => False) rfl rfl HR5.out (Kd.C_below HC.out HB5.out) (fun x cs h => k70_M h) (fun _ h => h.elim) (fun _ _ => trivial) HB5.out HB5.out.size (by have := HL.out.2; simp; omega) ?_; intro v7 w7 hR hb7 _ _; have HR7 := Aside0.mk hR; have HB7 := Aside0.mk hb7; clear hR hb7)
      | fail)
    go_ret
    exact ⟨_, rfl, HR7.out, HB7.out⟩
end Go.Proofs.Ytpnlbmeeihbjaaa.P
end
