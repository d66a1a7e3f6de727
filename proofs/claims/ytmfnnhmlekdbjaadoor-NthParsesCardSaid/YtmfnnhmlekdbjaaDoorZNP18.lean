/- The law NthParses (layer 4): the row and its tied card: for every input the law returns true, and the argument reads behind the call as it read before. No condition of ours. -/
import Derived.Test.YtmfnnhmlekdbjaaDoorZNP9
import Derived.Test.YtmfnnhmlekdbjaaDoorZNP16
import Derived.Test.YtmfnnhmlekdbjaaDoorZNP17
section
set_option linter.unusedVariables false
set_option linter.unusedSimpArgs false
namespace Go.Proofs.YtmfnnhmlekdbjaaDoor.P
open Go.RowKit Go.Proofs.YtmfnnhmlekdbjaaDoorW.PrintWords Go.Proofs.YtmfnnhmlekdbjaaDoorW.PrintLast Go.Proofs.YtmfnnhmlekdbjaaDoorW.PrintMore
open Go.Lib
set_option linter.unusedVariables false
set_option linter.unusedSimpArgs false
inductive OkV : List S32 → Prop
  | mk (l : List S32) (h : l.length ≤ 9223372036854775807) (hk : ∀ x, x ∈ l → OkV x.f1) : OkV l
theorem okV_of {w : World} : ∀ (n : Nat) (l : List S32) (A : Option Addr), SizeOf.sizeOf l ≤ n → Kd.C k32 w A l.length l → OkV l := by
  intro n
  induction n with
  | zero => intro l A hn _; cases l <;> simp at hn
  | succ n ih =>
    intro l A hn hC
    refine .mk l hC.2.1 (fun x hx => ?_)
    obtain ⟨i, hi, e⟩ := List.getElem_of_mem hx
    obtain ⟨ad, A5, c5, _, _, _, _, _, _, _, _, hC5⟩ := at_T32 hC (i : Int) (by omega) (by omega)
    rw [rd32 l i hi, e] at hC5
    have h1 : SizeOf.sizeOf x < SizeOf.sizeOf l := List.sizeOf_lt_of_mem hx
    have h2 : SizeOf.sizeOf x.f1 < SizeOf.sizeOf x := by cases x; simp; omega
    exact ih x.f1 A5 (by omega) hC5
theorem ev_count : ∀ (n : Nat) (l : List S32), SizeOf.sizeOf l ≤ n → OkV l → ∃ v, Ev (fun k => gouacheref03_Count.f k l) v := by
  intro n
  induction n with
  | zero => intro l hn _; cases l <;> simp at hn
  | succ n ih =>
    intro l hn hok
    obtain ⟨_, hlen, hk⟩ := hok
    have loop : ∀ (d i : Nat) (a : Int), i + d = l.length → ∃ v, Ev (fun k => gouacheref03_Count.l0 k a l (l.length : Int) (i : Int)) v := by
      intro d
      induction d with
      | zero =>
        intro i a hi
        exact ⟨a, Ev.step (fun k => by unfold gouacheref03_Count.l0; exact rfl) (Ev.ifn (by omega) (Ev.now _))⟩
      | succ d ihd =>
        intro i a hi
        have hlt : i < l.length := by omega
        have h1 : SizeOf.sizeOf l[i] < SizeOf.sizeOf l := List.sizeOf_lt_of_mem (List.getElem_mem hlt)
        have h2 : SizeOf.sizeOf (l[i]).f1 < SizeOf.sizeOf l[i] := by cases l[i]; simp; omega
        obtain ⟨v1, e1⟩ := ih (l[i]).f1 (by omega) (hk _ (List.getElem_mem hlt))
        obtain ⟨v2, e2⟩ := ihd (i + 1) (wrap64 (a + wrap64 (1 + v1))) (by omega)
        refine ⟨v2, Ev.step (fun k => by unfold gouacheref03_Count.l0; exact rfl) (Ev.ifp (by omega) (Ev.ifp (by omega) (Ev.ifp (by omega) ?_)))⟩
        rw [rd32 l i hlt]
        refine Ev.bind e1 ?_
        rw [show wrap64 ((i : Int) + 1) = ((i + 1 : Nat) : Int) by unfold wrap64; omega]
        exact e2
    obtain ⟨v, e⟩ := loop l.length 0 0 (by omega)
    exact ⟨v, Ev.step (fun k => by unfold gouacheref03_Count.f; exact rfl) e⟩
theorem toks_len : ∀ (l : List S32) (acc a : List UInt8), toksS l acc = some a → a.length ≤ acc.length + bulkT l
  | [], acc, a, h => by
    obtain rfl := Option.some.inj h
    simp [bulkT]
  | x :: l, acc, a, h => by
    unfold toksS at h
    obtain ⟨s, hs, h2⟩ := Option.bind_eq_some_iff.1 h
    have h3 := toks_len l _ a h2
    have e1 : x.f0.f1.data.toList.length = x.f0.f1.size := (Lib.size_eq _).symm
    have e2 : x.f0.f2.data.toList.length = x.f0.f2.size := (Lib.size_eq _).symm
    have h4 : s.length ≤ x.f0.f1.size + x.f0.f2.size + 1 := by
      unfold tokS at hs
      split at hs
      · obtain rfl := Option.some.inj hs; omega
      split at hs
      · split at hs
        · obtain rfl := Option.some.inj hs; omega
        · cases hs
      split at hs
      · split at hs
        · obtain rfl := Option.some.inj hs; rw [List.length_append]; omega
        · cases hs
      split at hs
      · split at hs
        · obtain rfl := Option.some.inj hs; omega
        · cases hs
      split at hs
      · obtain rfl := Option.some.inj hs; show 1 ≤ _; omega
      · cases hs
    simp only [List.length_append, bulkT] at h3 ⊢
    omega
theorem foldS_size (s : ByteArray) : (foldS s).size ≤ s.size := by
  have h : (bytesOfS s).length = s.size := bytesOfS_len s
  have e : (foldS s).size = ((bytesOfS s).map lowI).length := by
    unfold foldS strOfNums
    show Array.size _ = _
    simp
  rw [e, List.length_map, h]
  exact Nat.le_refl _
theorem wrapUp_size (l : List S32) (h : bulkT l ≤ 1000000) : (wrapUp (toksS l [])).1.size ≤ 100000000 := by
  cases e : toksS l [] with
  | none => show 0 ≤ _; omega
  | some a =>
    have h1 := toks_len l [] a e
    have h2 := trimB_len a 32
    have h3 := foldS_size ⟨(Lib.trimB a 32).toArray⟩
    have h4 : (⟨(Lib.trimB a 32).toArray⟩ : ByteArray).size = (Lib.trimB a 32).length := by show Array.size _ = _; simp
    show (foldS ⟨(Lib.trimB a 32).toArray⟩).size ≤ _
    simp only [List.length_nil] at h1
    omega
theorem bulk_all : ∀ (l : List S32), (∀ x, x ∈ l → x.f0.f1.size + x.f0.f2.size ≤ 200) → bulkT l ≤ 201 * l.length
  | [], _ => by simp [bulkT]
  | x :: l, h => by
    have h1 := h x List.mem_cons_self
    have h2 := bulk_all l (fun y hy => h y (List.mem_cons_of_mem _ hy))
    simp only [bulkT, List.length_cons]
    omega
theorem ev_lives : Ev (fun k => gouachelaw04_lives.f k) true := ⟨3, fun k hk => lives_p k hk⟩
theorem ev_lives' : Ev (fun k => (gouachelaw04_lives.f k).bind fun t => (some t : Option Bool)) true := Ev.bind ev_lives (Ev.now _)
theorem ev_loop (l : List S32) (hl : l.length ≤ 200) (hs : ∀ x, x ∈ l → x.f0.f1.size ≤ 140737488351232 ∧ x.f0.f2.size ≤ 140737488351232) : ∀ (d i : Nat), i + d = l.length → (∀ x, x ∈ l.take i → x.f0.f1.size + x.f0.f2.size ≤ 200) →
    Ev (fun k => gouachelaw04_NthParses.l0 k l l (l.length : Int) (i : Int)) true := by
  intro d
  induction d with
  | zero =>
    intro i hi hb
    rw [List.take_of_length_le (by omega)] at hb
    have hbulk := bulk_all l hb
    have hw : nth_written.f l = some (wrapUp (toksS l [])) := by unfold nth_written.f; rw [if_pos (by omega)]
    have hsz := wrapUp_size l (by omega)
    refine Ev.step (fun k => by unfold gouachelaw04_NthParses.l0; exact rfl) (Ev.ifn (by omega) ?_)
    refine Ev.bind (ev_parse l _ hw (by omega)) ?_
    refine Ev.bind (ev_rparse l _ (ev_rwritten l (by omega) (by omega)) hsz) ?_
    exact Ev.ifp rfl (Ev.ifp rfl (Ev.ifp (by simp) ev_lives'))
  | succ d ih =>
    intro i hi hb
    have hlt : i < l.length := by omega
    have hx := hs _ (List.getElem_mem hlt)
    refine Ev.step (fun k => by unfold gouachelaw04_NthParses.l0; exact rfl) (Ev.ifp (by omega) (Ev.ifp (by omega) (Ev.ifp (by omega) ?_)))
    rw [rd32 l i hlt]
    have e : wrap64 (((l[i]).f0.f1.size : Int) + ((l[i]).f0.f2.size : Int)) = ((l[i]).f0.f1.size : Int) + ((l[i]).f0.f2.size : Int) := by unfold wrap64; omega
    rw [e]
    by_cases c : ((l[i]).f0.f1.size : Int) + ((l[i]).f0.f2.size : Int) > 200
    · exact Ev.ifp c ev_lives'
    · refine Ev.ifn c ?_
      rw [show wrap64 ((i : Int) + 1) = ((i + 1 : Nat) : Int) by unfold wrap64; omega]
      refine ih (i + 1) (by omega) (fun x hm => ?_)
      rw [List.take_succ_eq_append_getElem hlt, List.mem_append, List.mem_singleton] at hm
      rcases hm with hm | rfl
      · exact hb x hm
      · omega
theorem ev_law (l : List S32) (hok : OkV l) (hs : ∀ x, x ∈ l → x.f0.f1.size ≤ 140737488351232 ∧ x.f0.f2.size ≤ 140737488351232) : Ev (fun k => gouachelaw04_NthParses.f k l) true := by
  unfold gouachelaw04_NthParses.f
  have yes : Ev (fun k => gouachelaw04_NthParses.j0 k l true) true := Ev.step (fun k => by unfold gouachelaw04_NthParses.j0; exact rfl) (Ev.ifp rfl ev_lives')
  by_cases c : (l.length : Int) > 200
  · exact Ev.ifp c yes
  · refine Ev.ifn c ?_
    obtain ⟨v, hv⟩ := ev_count _ l (Nat.le_refl _) hok
    refine Ev.bind hv ?_
    by_cases c2 : v > 500
    · rw [decide_eq_true c2]; exact yes
    · rw [decide_eq_false c2]
      refine Ev.step (fun k => by unfold gouachelaw04_NthParses.j0; exact rfl) (Ev.ifn (by decide) ?_)
      exact ev_loop l (by omega) hs l.length 0 (by omega) (fun x hx => by simp at hx)
theorem nparses_calls (A0 : Option Addr) (c0 : Nat) (l : List S32) (w : World) (hC : Kd.C k32 w A0 l.length l) (hc : l.length ≤ c0) (hs : ∀ x, x ∈ l → x.f0.f1.size ≤ 140737488351232 ∧ x.f0.f2.size ≤ 140737488351232) (hT : WT w) :
    Calls Tryd.prog 6 #[.slice A0 l.length c0] w fun e w' => e = .returned (.bool true) ∧ Below w.heap.size w w' := by
  obtain ⟨k, hk⟩ := Ev.rounds (ev_law l (okV_of _ l A0 (Nat.le_refl _) hC) hs)
  exact gouachelaw04_NthParses.calls k A0 c0 l true w hC hc hT hk
end Go.Proofs.YtmfnnhmlekdbjaaDoor.P
end
