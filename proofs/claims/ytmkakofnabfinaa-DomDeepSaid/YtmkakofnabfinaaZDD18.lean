/- DomDeep: for every input the law returns true, and each argument reads behind the call as it read before. -/
import Derived.Test.YtmkakofnabfinaaZDD17
import Derived.LaidEqlPtr
section
set_option linter.unusedVariables false
set_option linter.unusedSimpArgs false
namespace Go.Proofs.Ytmkakofnabfinaa.P
open Go.RowKit Go.Proofs.YtmkakofnabfinaaW.PrintWords Go.Proofs.YtmkakofnabfinaaW.PrintLast Go.Proofs.YtmkakofnabfinaaW.PrintMore
set_option linter.unusedVariables false
set_option linter.unusedSimpArgs false
def chE (i j : Nat) : S56 := ⟨j, if j = 1 then ⟨#[97]⟩ else ⟨#[98]⟩, (j : Int) - 1, if j < i then [(j : Int) + 1] else [], []⟩
def chF (i : Nat) : Nat → Option S56 := fun j => if 1 ≤ j ∧ j ≤ i then some (chE i j) else none
theorem ch_look {i j : Nat} (h1 : 1 ≤ j) (h2 : j ≤ i) (h3 : i < 1000) : look (chF i) (j : Int) = some (chE i j) := by
  unfold look chF
  rw [if_pos (by omega), Int.toNat_natCast, if_pos ⟨h1, h2⟩]
theorem ch_zero (i : Nat) : look (chF i) 0 = none := by
  unfold look chF
  rw [if_pos (by omega)]
  rfl
theorem ch_one : newF ⟨#[97]⟩ = chF 1 := by
  funext j
  unfold newF putF upd chF
  rw [if_pos (by decide)]
  by_cases h : j = 1
  · subst h; rfl
  · rw [if_neg (show ¬ j = Int.toNat 1 from h), if_neg (by omega)]
theorem ch_ins {i : Nat} (h1 : 1 ≤ i) (h2 : i < 900) : insF (chF i) ((i : Int) + 1) (i : Int) 0 ⟨#[98]⟩ = chF (i + 1) := by
  unfold insF
  rw [ch_look h1 (Nat.le_refl _) (by omega)]
  unfold putF
  rw [if_pos (by omega), if_pos (by omega)]
  funext j
  unfold upd
  rw [show ((i : Int) + 1).toNat = i + 1 by omega, Int.toNat_natCast]
  unfold chF
  by_cases e1 : j = i + 1
  · subst e1
    rw [if_pos rfl, if_pos (by omega)]
    unfold chE el
    rw [if_neg (by omega), if_neg (by omega)]
    simp
  · rw [if_neg e1]
    by_cases e2 : j = i
    · subst e2
      rw [if_pos rfl, if_pos (by omega)]
      unfold chE gainA
      simp
    · rw [if_neg e2]
      by_cases e3 : 1 ≤ j ∧ j ≤ i
      · rw [if_pos e3, if_pos (by omega)]
        unfold chE
        rw [if_pos (show j < i by omega), if_pos (show j < i + 1 by omega)]
      · rw [if_neg e3, if_neg (by omega)]
theorem ch_dep {i : Nat} (h3 : i < 1000) : ∀ (j n : Nat) (k : Int), j ≤ i → j < n → 0 ≤ k → k + j < 100000 → depL (chF i) n (look (chF i) (j : Int)) k = some (k + j)
  | 0, n + 1, k, _, _, _, _ => by
    rw [show ((0 : Nat) : Int) = 0 from rfl, ch_zero, depL]; simp
  | j + 1, n + 1, k, h, hn, h0, hk => by
    rw [ch_look (by omega) h h3, depL]
    have e : (chE i (j + 1)).f2 = (j : Int) := by unfold chE; simp
    rw [e, show wrap64 (k + 1) = k + 1 by unfold wrap64; omega, ch_dep h3 j n (k + 1) (by omega) (by omega) (by omega) (by omega)]
    congr 1
    omega
theorem ch_small (i j : Nat) : (chE i j).f3.length ≤ 1099511627776 ∧ (chE i j).f4.length ≤ 1099511627776 := by
  unfold chE
  refine ⟨?_, Nat.zero_le _⟩
  simp only
  split <;> simp
theorem ch_O {i : Nat} (v : Value) (w : World) (h1 : 1 ≤ i) (h2 : i < 512) (h : DocF w v (chF i) ((i : Int) + 1)) :
    Calls Try.prog 14 #[v, .int .i64 (i : Int), .int .i64 0, .string ⟨#[98]⟩] w fun e w' => ∃ v', e = .returned (.tuple #[v', .int .i64 ((i : Int) + 1), .int .i64 0]) ∧ DocF w' v' (chF (i + 1)) ((i : Int) + 1 + 1) ∧ Below w.heap.size w w' := by
  have hl := ch_look h1 (Nat.le_refl i) (by omega)
  have hd := ch_dep (i := i) (by omega) i 1000 0 (Nat.le_refl _) (by omega) (by omega) (by omega)
  refine (ins_O (fun _ => True) 3 1000 v (chF i) ((i : Int) + 1) i 0 ⟨#[98]⟩ (0 + i) (chE i i) w (fun _ _ => trivial) (h.all.step (fun _ _ _ => rfl) (fun _ _ => trivial)) lives_n2 hd hl (Nat.zero_le _) (ch_small i i) (by omega) (by omega)).mono ?_
  rintro e w' ⟨v', he, hD, hb⟩
  refine ⟨v', he, ?_, hb⟩
  have := hD.doc
  rwa [ch_ins h1 (by omega), show wrap64 ((i : Int) + 1 + 1) = (i : Int) + 1 + 1 by unfold wrap64; omega] at this
theorem ch_X (v : Value) (w : World) (h : DocF w v (chF 512) 513) :
    Calls Try.prog 14 #[v, .int .i64 512, .int .i64 0, .string ⟨#[98]⟩] w fun e w' => e = .returned (.tuple #[v, .int .i64 0, .int .i64 5]) ∧ Below w.heap.size w w' := by
  have hl := ch_look (i := 512) (j := 512) (by omega) (by omega) (by omega)
  have hd := ch_dep (i := 512) (by omega) 512 1000 0 (by omega) (by omega) (by omega) (by omega)
  have hE : insE (chF 512) 513 512 0 true (0 + (512 : Nat)) = 5 := by
    unfold insE
    rw [show (512 : Int) = ((512 : Nat) : Int) from rfl, hl]
    decide
  have h2 := ins_no 3 1000 v (chF 512) 513 512 0 ⟨#[98]⟩ true (0 + (512 : Nat)) w h lives_n2 hd (by rw [hE]; decide)
  rw [hE] at h2
  exact h2
theorem info67 : ∃ j, Try.prog.info? 67 = some j := by
  have h : (Try.prog.info? 67).isSome = true := by kernel_rfl
  exact Option.isSome_iff_exists.1 h
theorem doc_eq (a : Addr) (w : World) : (binOp .eql 23 (.pointer (some a)) (.pointer (some a))).run Try.prog w = .ok (.bool true) w := by
  obtain ⟨j, hj⟩ := info67
  exact run_eql_ptr_same w a Try.underlying23 hj
theorem ch_XI (i : Nat) (hi : i = 512) (v : Value) (w : World) (h : DocF w v (chF i) ((i : Int) + 1)) :
    Calls Try.prog 14 #[v, .int .i64 (i : Int), .int .i64 0, .string ⟨#[98]⟩] w fun e w' => e = .returned (.tuple #[v, .int .i64 0, .int .i64 5]) ∧ Below w.heap.size w w' := by
  have e : (i : Int) = 512 := by omega
  have e1 : (i : Int) + 1 = 513 := by omega
  rw [e1] at h
  rw [e]
  subst hi
  exact ch_X v w h
end Go.Proofs.Ytmkakofnabfinaa.P
end
section
set_option linter.unusedVariables false
set_option linter.unusedSimpArgs false
namespace Go.Proofs.Ytmkakofnabfinaa.P
open Go.RowKit Go.Proofs.YtmkakofnabfinaaW.PrintWords Go.Proofs.YtmkakofnabfinaaW.PrintLast Go.Proofs.YtmkakofnabfinaaW.PrintMore
set_option linter.unusedVariables false
set_option linter.unusedSimpArgs false
theorem dd_n4 : nameL ⟨#[100]⟩ 3 0 = some true := by kernel_rfl
def ddA (K : Nat) : Nat → Option S56 := insF (chF K) ((K : Int) + 1) 1 0 ⟨#[99]⟩
def ddB (K : Nat) : Nat → Option S56 := insF (ddA K) ((K : Int) + 2) ((K : Int) + 1) 0 ⟨#[100]⟩
theorem ddA_calls510 (v : Value) (w : World) (h : DocF w v (chF 510) 511) : Calls Try.prog 14 #[v, .int .i64 1, .int .i64 0, .string ⟨#[99]⟩] w fun e w' => ∃ v', e = .returned (.tuple #[v', .int .i64 511, .int .i64 0]) ∧ DocF w' v' (ddA 510) 512 ∧ Below w.heap.size w w' :=
  (ins_O (fun _ => True) 3 5 v (chF 510) 511 1 0 ⟨#[99]⟩ 1 (chE 510 1) w (fun _ _ => trivial) (h.all.step (fun _ _ _ => rfl) (fun _ _ => trivial)) lives_n3 (by kernel_rfl) (by kernel_rfl) (by decide) (by decide) (by decide) (by decide)).mono fun e w' ⟨v', he, hd, hb⟩ => ⟨v', he, (show wrap64 (511 + 1) = 512 by kernel_rfl) ▸ hd.doc, hb⟩
theorem ddB_calls510 (v : Value) (w : World) (h : DocF w v (ddA 510) 512) : Calls Try.prog 14 #[v, .int .i64 511, .int .i64 0, .string ⟨#[100]⟩] w fun e w' => ∃ v', e = .returned (.tuple #[v', .int .i64 512, .int .i64 0]) ∧ DocF w' v' (ddB 510) 513 ∧ Below w.heap.size w w' :=
  (ins_O (fun _ => True) 3 5 v (ddA 510) 512 511 0 ⟨#[100]⟩ 2 (el 511 ⟨#[99]⟩ 1) w (fun _ _ => trivial) (h.all.step (fun _ _ _ => rfl) (fun _ _ => trivial)) dd_n4 (by kernel_rfl) (by kernel_rfl) (by decide) (by decide) (by decide) (by decide)).mono fun e w' ⟨v', he, hd, hb⟩ => ⟨v', he, (show wrap64 (512 + 1) = 513 by kernel_rfl) ▸ hd.doc, hb⟩
theorem dd_wit510 : witL (ddB 510) 511 1000 (look (ddB 510) 510) = some false := by kernel_rfl
theorem dd_dep510 : depL (ddB 510) 1000 (look (ddB 510) 510) 0 = some 510 := by kernel_rfl
theorem dd_tall510 (v : Value) (w : World) (h : DocF w v (ddB 510) 513) : ∀ W : World, Below w.heap.size w W → Calls Try.prog 54 #[v, .int .i64 511] W fun e w' => e = .returned (.int .i64 2) ∧ Below W.heap.size W w' :=
  tall_hyp (n := 10) (m := 10) (r := [511, 512]) h (by kernel_rfl) (by decide) (by intro k hk; simp at hk; rcases hk with rfl | rfl <;> kernel_rfl) (by kernel_rfl)
theorem ddM_calls510 (v : Value) (w : World) (h : DocF w v (ddB 510) 513) : Calls Try.prog 16 #[v, .int .i64 511, .int .i64 510, .int .i64 0] w fun e w' => ∃ v', e = .returned (.tuple #[v', .int .i64 0]) ∧ Below w.heap.size w w' :=
  (mov_O (fun _ => True) 1000 v (ddB 510) 513 511 510 0 510 2 ⟨511, ⟨#[99]⟩, 1, [512], []⟩ (chE 510 510) w (fun _ _ => trivial) (h.all.step (fun _ _ _ => rfl) (fun _ _ => trivial)) dd_wit510 dd_dep510 (dd_tall510 v w h) (by kernel_rfl) (by kernel_rfl) (by decide) (by decide) (by rw [show wrap64 (510 + 2) = 512 by kernel_rfl]; decide)
    (by decide) (by decide) (by decide) (by decide)).mono fun e w' ⟨v', he, _, hb⟩ => ⟨v', he, hb⟩
theorem ddA_calls511 (v : Value) (w : World) (h : DocF w v (chF 511) 512) : Calls Try.prog 14 #[v, .int .i64 1, .int .i64 0, .string ⟨#[99]⟩] w fun e w' => ∃ v', e = .returned (.tuple #[v', .int .i64 512, .int .i64 0]) ∧ DocF w' v' (ddA 511) 513 ∧ Below w.heap.size w w' :=
  (ins_O (fun _ => True) 3 5 v (chF 511) 512 1 0 ⟨#[99]⟩ 1 (chE 511 1) w (fun _ _ => trivial) (h.all.step (fun _ _ _ => rfl) (fun _ _ => trivial)) lives_n3 (by kernel_rfl) (by kernel_rfl) (by decide) (by decide) (by decide) (by decide)).mono fun e w' ⟨v', he, hd, hb⟩ => ⟨v', he, (show wrap64 (512 + 1) = 513 by kernel_rfl) ▸ hd.doc, hb⟩
theorem ddB_calls511 (v : Value) (w : World) (h : DocF w v (ddA 511) 513) : Calls Try.prog 14 #[v, .int .i64 512, .int .i64 0, .string ⟨#[100]⟩] w fun e w' => ∃ v', e = .returned (.tuple #[v', .int .i64 513, .int .i64 0]) ∧ DocF w' v' (ddB 511) 514 ∧ Below w.heap.size w w' :=
  (ins_O (fun _ => True) 3 5 v (ddA 511) 513 512 0 ⟨#[100]⟩ 2 (el 512 ⟨#[99]⟩ 1) w (fun _ _ => trivial) (h.all.step (fun _ _ _ => rfl) (fun _ _ => trivial)) dd_n4 (by kernel_rfl) (by kernel_rfl) (by decide) (by decide) (by decide) (by decide)).mono fun e w' ⟨v', he, hd, hb⟩ => ⟨v', he, (show wrap64 (513 + 1) = 514 by kernel_rfl) ▸ hd.doc, hb⟩
theorem dd_wit511 : witL (ddB 511) 512 1000 (look (ddB 511) 511) = some false := by kernel_rfl
theorem dd_dep511 : depL (ddB 511) 1000 (look (ddB 511) 511) 0 = some 511 := by kernel_rfl
theorem dd_tall511 (v : Value) (w : World) (h : DocF w v (ddB 511) 514) : ∀ W : World, Below w.heap.size w W → Calls Try.prog 54 #[v, .int .i64 512] W fun e w' => e = .returned (.int .i64 2) ∧ Below W.heap.size W w' :=
  tall_hyp (n := 10) (m := 10) (r := [512, 513]) h (by kernel_rfl) (by decide) (by intro k hk; simp at hk; rcases hk with rfl | rfl <;> kernel_rfl) (by kernel_rfl)
theorem dd_E511 : movE (ddB 511) 512 511 0 false 511 2 = 5 := by kernel_rfl
theorem ddM_calls511 (v : Value) (w : World) (h : DocF w v (ddB 511) 514) : Calls Try.prog 16 #[v, .int .i64 512, .int .i64 511, .int .i64 0] w fun e w' => e = .returned (.tuple #[v, .int .i64 5]) ∧ Below w.heap.size w w' := by
  have h2 := mov_no 1000 v (ddB 511) 514 512 511 0 false 511 2 w h dd_wit511 dd_dep511 (dd_tall511 v w h) (by rw [dd_E511]; decide)
  rwa [dd_E511] at h2
theorem ddA_calls512 (v : Value) (w : World) (h : DocF w v (chF 512) 513) : Calls Try.prog 14 #[v, .int .i64 1, .int .i64 0, .string ⟨#[99]⟩] w fun e w' => ∃ v', e = .returned (.tuple #[v', .int .i64 513, .int .i64 0]) ∧ DocF w' v' (ddA 512) 514 ∧ Below w.heap.size w w' :=
  (ins_O (fun _ => True) 3 5 v (chF 512) 513 1 0 ⟨#[99]⟩ 1 (chE 512 1) w (fun _ _ => trivial) (h.all.step (fun _ _ _ => rfl) (fun _ _ => trivial)) lives_n3 (by kernel_rfl) (by kernel_rfl) (by decide) (by decide) (by decide) (by decide)).mono fun e w' ⟨v', he, hd, hb⟩ => ⟨v', he, (show wrap64 (513 + 1) = 514 by kernel_rfl) ▸ hd.doc, hb⟩
theorem ddB_calls512 (v : Value) (w : World) (h : DocF w v (ddA 512) 514) : Calls Try.prog 14 #[v, .int .i64 513, .int .i64 0, .string ⟨#[100]⟩] w fun e w' => ∃ v', e = .returned (.tuple #[v', .int .i64 514, .int .i64 0]) ∧ DocF w' v' (ddB 512) 515 ∧ Below w.heap.size w w' :=
  (ins_O (fun _ => True) 3 5 v (ddA 512) 514 513 0 ⟨#[100]⟩ 2 (el 513 ⟨#[99]⟩ 1) w (fun _ _ => trivial) (h.all.step (fun _ _ _ => rfl) (fun _ _ => trivial)) dd_n4 (by kernel_rfl) (by kernel_rfl) (by decide) (by decide) (by decide) (by decide)).mono fun e w' ⟨v', he, hd, hb⟩ => ⟨v', he, (show wrap64 (514 + 1) = 515 by kernel_rfl) ▸ hd.doc, hb⟩
theorem dd_wit512 : witL (ddB 512) 513 1000 (look (ddB 512) 512) = some false := by kernel_rfl
theorem dd_dep512 : depL (ddB 512) 1000 (look (ddB 512) 512) 0 = some 512 := by kernel_rfl
theorem dd_tall512 (v : Value) (w : World) (h : DocF w v (ddB 512) 515) : ∀ W : World, Below w.heap.size w W → Calls Try.prog 54 #[v, .int .i64 513] W fun e w' => e = .returned (.int .i64 2) ∧ Below W.heap.size W w' :=
  tall_hyp (n := 10) (m := 10) (r := [513, 514]) h (by kernel_rfl) (by decide) (by intro k hk; simp at hk; rcases hk with rfl | rfl <;> kernel_rfl) (by kernel_rfl)
theorem dd_E512 : movE (ddB 512) 513 512 0 false 512 2 = 5 := by kernel_rfl
theorem ddM_calls512 (v : Value) (w : World) (h : DocF w v (ddB 512) 515) : Calls Try.prog 16 #[v, .int .i64 513, .int .i64 512, .int .i64 0] w fun e w' => e = .returned (.tuple #[v, .int .i64 5]) ∧ Below w.heap.size w w' := by
  have h2 := mov_no 1000 v (ddB 512) 515 513 512 0 false 512 2 w h dd_wit512 dd_dep512 (dd_tall512 v w h) (by rw [dd_E512]; decide)
  rwa [dd_E512] at h2
end Go.Proofs.Ytmkakofnabfinaa.P
end
