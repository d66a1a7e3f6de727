/- The law NthParses (layer 4): the row and its tied card: for every input the law returns true, and the argument reads behind the call as it read before. No condition of ours. -/
import Derived.Test.YtmfnnhmlekdbjaaDoorZNP3
import Derived.Test.YtmfnnhmlekdbjaaDoorZNP7
import Derived.Test.YtmfnnhmlekdbjaaDoorZNP11
import Derived.Lib.OthersKept
section
set_option linter.unusedVariables false
set_option linter.unusedSimpArgs false
namespace Go.Proofs.YtmfnnhmlekdbjaaDoor.P
open Go.RowKit Go.Proofs.YtmfnnhmlekdbjaaDoorW.PrintWords Go.Proofs.YtmfnnhmlekdbjaaDoorW.PrintLast Go.Proofs.YtmfnnhmlekdbjaaDoorW.PrintMore
open Go.Lib
attribute [local go_sem] max2_int min2_int max_two min_two max_three min_three max_four min_four
set_option linter.unusedVariables false
set_option linter.unusedSimpArgs false
def digL (s : ByteArray) : Nat → Nat → Int → Option (Option Int)
  | 0, _, _ => none
  | n + 1, pos, a => if pos < s.size then (if btw 48 57 (Utf8.decode s pos).1 = true then digL s n (pos + (Utf8.decode s pos).2) (min (10 * a + ((Utf8.decode s pos).1 - 48)) 1000000) else some none) else some (some a)
def signsOff (s : ByteArray) : ByteArray := ⟨(Lib.trimLeftS s.data.toList [43, 45]).toArray⟩
theorem signsOff_size (s : ByteArray) : (signsOff s).size ≤ s.size := by
  show (Lib.trimLeftS s.data.toList [43, 45]).toArray.size ≤ _
  rw [Lib.size_eq]
  unfold Lib.trimLeftS
  have h := (List.dropWhile_sublist (fun x => ([43, 45] : List UInt8).contains x) (l := s.data.toList)).length_le
  simpa using h
theorem info116 : (Tryd.prog.info? (Tryd.lays161_ren.t 116)).map (fun i => (i.zero, i.size)) = some (some (.agg (Array.replicate 256 (.bool false))), 256) := by kernel_rfl
theorem trimLeft_calls (s : ByteArray) (w : World) : Calls Tryd.prog 34 #[.string s, .string ⟨#[43, 45]⟩] w fun e w' => e = .returned (.string (signsOff s)) ∧ Below w.heap.size w w' := by
  have hc := Any.strings_TrimLeft_laid Tryd.lays161 info116 s ⟨#[43, 45]⟩ w (by decide) (fun j b h => by
    match j, h with
    | 0, h => obtain rfl := Option.some.inj h; decide
    | 1, h => obtain rfl := Option.some.inj h; decide
    | j + 2, h => simp at h)
  change Calls Tryd.prog 34 _ _ _ at hc
  exact hc
def numF (s : ByteArray) : Option (Int × Bool) :=
  if s.size ≤ 140737488351232 then
    (if 1 < (s.size : Int) - (signsOff s).size then some (0, false)
     else if (signsOff s).toList = [] then some (0, false)
     else match digL (signsOff s) ((signsOff s).size + 1) 0 0 with
      | none => none
      | some none => some (0, false)
      | some (some n) => if bt s 0 = 45 then some (-n, true) else some (n, true))
  else none
set_option maxHeartbeats 8000000 in
set_option maxRecDepth 100000 in
theorem number_calls (s : ByteArray) (r1 : Int) (r2 : Bool) (w : World) (h : numF s = some (r1, r2)) :
    Calls Tryd.prog 21 #[.string s] w fun e w' => e = .returned (.tuple #[.int .i64 r1, .bool r2]) ∧ Below w.heap.size w w' := by
  have HTR := Aside0.mk (fun W => trimLeft_calls s W)
  have hle := signsOff_size s
  unfold numF at h
  generalize signsOff s = D at HTR hle h
  split at h
  rotate_left
  · cases h
  rename_i hs
  split at h
  · rename_i c1
    obtain ⟨rfl, rfl⟩ := Prod.mk.inj (Option.some.inj h)
    have d0 : wrap64 ((s.size : Int) - (D.size : Int)) = (s.size : Int) - D.size := by unfold wrap64; omega
    have d1 : decide ((1 : Int) < (s.size : Int) - (D.size : Int)) = true := decide_eq_true (by omega)
    clear h
    go_enter Tryd.func21, Tryd.ntmps21
    go_wp2_with (first | (go_at_call 34; refine (HTR.out _).mono ?_; rintro e w1 ⟨rfl, hb⟩; have HB1 := Aside0.mk hb; clear hb) | fail)
    go_ret2
    exact ⟨rfl, HB1.out⟩
  rename_i c1
  split at h
  · rename_i c2
    obtain ⟨rfl, rfl⟩ := Prod.mk.inj (Option.some.inj h)
    have d0 : wrap64 ((s.size : Int) - (D.size : Int)) = (s.size : Int) - D.size := by unfold wrap64; omega
    have d1 : decide ((1 : Int) < (s.size : Int) - (D.size : Int)) = false := decide_eq_false (by omega)
    have c3 : D.toList.isEmpty = true := by rw [c2]; rfl
    clear h
    go_enter Tryd.func21, Tryd.ntmps21
    go_wp2_with (first | (go_at_call 34; refine (HTR.out _).mono ?_; rintro e w1 ⟨rfl, hb⟩; have HB1 := Aside0.mk hb; clear hb) | fail)
    go_ret2
    exact ⟨rfl, HB1.out⟩
  rename_i c2
  have d0 : wrap64 ((s.size : Int) - (D.size : Int)) = (s.size : Int) - D.size := by unfold wrap64; omega
  have d1 : decide ((1 : Int) < (s.size : Int) - (D.size : Int)) = false := decide_eq_false (by omega)
  have hDs : 0 < D.size := by
    rcases Nat.eq_zero_or_pos D.size with e | e
    · exact absurd (by rw [ByteArray.toList_eq]; exact List.eq_nil_of_length_eq_zero (by simpa using e)) c2
    · exact e
  have HS0 : Aside0 (0 < s.size) := ⟨by omega⟩
  obtain ⟨o, ho⟩ : ∃ o, digL D (D.size + 1) 0 0 = some o := by
    cases e : digL D (D.size + 1) 0 0 with
    | none => rw [e] at h; cases h
    | some o => exact ⟨o, rfl⟩
  rw [ho] at h
  have c3 : D.toList.isEmpty = false := by cases e : D.toList with | nil => exact absurd e c2 | cons a l => rfl
  clear c2
  have HO := Aside0.mk ho
  have HR := Aside0.mk h
  clear h ho hDs
  go_enter Tryd.func21, Tryd.ntmps21
  go_wp2_with (first | (go_at_call 34; refine (HTR.out _).mono ?_; rintro e w1 ⟨rfl, hb⟩; have HB1 := Aside0.mk hb; clear hb) | fail)
  go_loopg [5, 7] (D.size + 1) (fun kq v5 v7 w' => ∃ (pos : Nat) (a : Int), v5 = .int .i64 a ∧ Aside0 (0 ≤ a ∧ a ≤ 1000000) ∧ Aside0 (w'.heap[w1.heap.size]? = some (.stringIter D pos)) ∧ Aside0 (Below w.heap.size w w') ∧ Aside0 (digL D kq pos a = some o))
  case atStart => exact ⟨0, 0, rfl, ⟨by omega⟩, ⟨World.iter_heap w1 D 0⟩, ⟨below_alloc HB1.out _⟩, HO⟩
  case round =>
    clear HO
    obtain ⟨pos, a, rfl, HA, HI, HB, HE⟩ := hrel
    cases gk with
    | zero => exact absurd HE.out (by simp [digL])
    | succ n =>
      have hB1 := HB1.out.size
      by_cases c0 : pos < D.size
      · have hnx : ∀ ty, (Instr.next (.pointer (some ⟨w1.heap.size, 0, none⟩)) true ty).run Tryd.prog wr = .ok (.tuple #[.bool true, .int .i64 pos, .int .i32 (Utf8.decode D pos).1]) (wr.iterAt w1.heap.size D (pos + (Utf8.decode D pos).2)) := fun ty => run_next_any_at wr w1.heap.size D pos ty HI.out c0
        have hE := HE.out
        rw [digL, if_pos c0] at hE
        clear c0
        obtain ⟨c, hc⟩ : ∃ c : Int, c = ((Utf8.decode D pos).1 : Int) := ⟨_, rfl⟩
        rw [← hc] at hnx hE
        clear hc
        cases k1 : btw 48 57 c with
        | true =>
          rw [k1, if_pos rfl] at hE
          have HE2 := Aside0.mk hE
          have hc : 48 ≤ c ∧ c ≤ 57 := by simpa [btw] using k1
          have e1 : wrap64 (10 * a) = 10 * a := by have := HA.out; unfold wrap64; omega
          have e2 : wrap32 (c - 48) = c - 48 := by unfold wrap32; omega
          have e3 : wrap64 (c - 48) = c - 48 := by unfold wrap64; omega
          have e4 : wrap64 (10 * a + (c - 48)) = 10 * a + (c - 48) := by have := HA.out; unfold wrap64; omega
          have HCC := Aside0.mk hc
          have HE4 := Aside0.mk e4
          clear hE hc
          go_wp2_with (first | (go_at_call 35; refine (digit_calls c _).mono ?_; rintro e w2 ⟨rfl, hb2⟩; rw [k1]; have HB2 := Aside0.mk (below_then (below_iterAt HB.out hB1 D _) (below_iterAt HB.out hB1 D _).size hb2); have HI2 := Aside0.mk ((hb2.block _ (by rw [iterAt_size]; exact blk_lt HI.out)).trans (iterAt_heap wr w1.heap.size D pos _ HI.out)); clear hb2) | fail)
          · have e5 : min (10 * a + (c - 48)) 1000000 = 1000000 := by have := HE4.out; omega
            rw [e5] at HE2
            go_roundg n
            case measure => omega
            case rel => exact ⟨_, _, rfl, ⟨by have := HA.out; have := HCC.out; omega⟩, HI2, HB2, HE2⟩
          · have e5 : min (10 * a + (c - 48)) 1000000 = 10 * a + (c - 48) := by have := HE4.out; omega
            rw [e5] at HE2
            go_roundg n
            case measure => omega
            case rel => exact ⟨_, _, rfl, ⟨by have := HA.out; have := HCC.out; have := HE4.out; omega⟩, HI2, HB2, HE2⟩
        | false =>
          rw [k1, if_neg (by decide)] at hE
          obtain rfl := Option.some.inj hE
          clear hE
          go_wp2_with (first | (go_at_call 35; refine (digit_calls c _).mono ?_; rintro e w2 ⟨rfl, hb2⟩; rw [k1]; have HB2 := Aside0.mk (below_then (below_iterAt HB.out hB1 D _) (below_iterAt HB.out hB1 D _).size hb2); clear hb2) | fail)
          obtain ⟨rfl, rfl⟩ := Prod.mk.inj (Option.some.inj HR.out)
          go_ret2
          exact ⟨rfl, HB2.out⟩
      · have hnx : ∀ ty, (Instr.next (.pointer (some ⟨w1.heap.size, 0, none⟩)) true ty).run Tryd.prog wr = .ok (.tuple #[.bool false]) wr := fun ty => run_next_end_at wr w1.heap.size D pos ty HI.out c0
        have hE := HE.out
        rw [digL, if_neg c0] at hE
        obtain rfl := Option.some.inj hE
        clear hE c0
        have hr := HR.out
        have hz : 0 < s.size := HS0.out
        have hz0 : (0 : Int) < (s.size : Int) := by omega
        have hx8 : ∀ h : 0 < s.size, ((s[0]'h).toNat : Int) = bt s 0 := bt_at s 0
        by_cases ce : bt s 0 = 45
        · simp only [ce, if_true] at hr
          obtain ⟨rfl, rfl⟩ := Prod.mk.inj (Option.some.inj hr)
          have ce2 : (bt s 0 == 45) = true := beq_iff_eq.mpr ce
          have e6 : wrap64 (-a) = -a := by have := HA.out; unfold wrap64; omega
          clear hr ce
          go_wp2_with fail
          go_ret2
          exact ⟨rfl, HB.out⟩
        · simp only [ce, if_false] at hr
          obtain ⟨rfl, rfl⟩ := Prod.mk.inj (Option.some.inj hr)
          have ce2 : (bt s 0 == 45) = false := beq_eq_false_iff_ne.mpr ce
          clear hr ce
          go_wp2_with fail
          go_ret2
          exact ⟨rfl, HB.out⟩
def nth_number.f (a0 : ByteArray) : Option (Int × Bool) := numF a0
theorem nth_number.calls (a0 : ByteArray) (r1 : Int) (r2 : Bool) (w : World) (h : nth_number.f a0 = some (r1, r2)) :
    Calls Tryd.prog 21 #[.string a0] w fun e w' => e = .returned (.tuple #[.int .i64 r1, .bool r2]) ∧ Below w.heap.size w w' := number_calls a0 r1 r2 w h
end Go.Proofs.YtmfnnhmlekdbjaaDoor.P
end
section
set_option linter.unusedVariables false
set_option linter.unusedSimpArgs false
namespace Go.Proofs.YtmfnnhmlekdbjaaDoor.P
open Go.RowKit Go.Proofs.YtmfnnhmlekdbjaaDoorW.PrintWords Go.Proofs.YtmfnnhmlekdbjaaDoorW.PrintLast Go.Proofs.YtmfnnhmlekdbjaaDoorW.PrintMore
attribute [local go_sem] max2_int min2_int max_two min_two max_three min_three max_four min_four
set_option linter.unusedVariables false
set_option linter.unusedSimpArgs false
def nth_times.f (a0 : ByteArray) : Option (Int × Bool) := if a0.toList = ([] : List UInt8) then (if a0.size + 1 ≤ 9223372036854775807 then ((nth_number.f (a0 ++ (⟨#[49]⟩ : ByteArray))).bind fun bt101 => (some (bt101.1, bt101.2))) else (none)) else (if a0.toList = ([43] : List UInt8) then (if a0.size + 1 ≤ 9223372036854775807 then ((nth_number.f (a0 ++ (⟨#[49]⟩ : ByteArray))).bind fun bt103 => (some (bt103.1, bt103.2))) else (none)) else (if a0.toList = ([45] : List UInt8) then (if a0.size + 1 ≤ 9223372036854775807 then ((nth_number.f (a0 ++ (⟨#[49]⟩ : ByteArray))).bind fun bt105 => (some (bt105.1, bt105.2))) else (none)) else ((nth_number.f a0).bind fun bt107 => (some (bt107.1, bt107.2)))))
set_option maxHeartbeats 8000000 in
set_option maxRecDepth 100000 in
theorem nth_times.calls (a0 : ByteArray) (r1 : Int) (r2 : Bool) (w : World) (h : nth_times.f a0 = some (r1, r2)) :
    Calls Tryd.prog 22 #[.string a0] w fun e w' => e = .returned (.tuple #[.int .i64 r1, .bool r2]) ∧ Below w.heap.size w w' := by
  have HB := Aside0.mk (Below.refl w.heap.size w)
  have H : (if a0.toList = ([] : List UInt8) then (if a0.size + 1 ≤ 9223372036854775807 then ((nth_number.f (a0 ++ (⟨#[49]⟩ : ByteArray))).bind fun bt101 => (some (bt101.1, bt101.2))) else (none)) else (if a0.toList = ([43] : List UInt8) then (if a0.size + 1 ≤ 9223372036854775807 then ((nth_number.f (a0 ++ (⟨#[49]⟩ : ByteArray))).bind fun bt103 => (some (bt103.1, bt103.2))) else (none)) else (if a0.toList = ([45] : List UInt8) then (if a0.size + 1 ≤ 9223372036854775807 then ((nth_number.f (a0 ++ (⟨#[49]⟩ : ByteArray))).bind fun bt105 => (some (bt105.1, bt105.2))) else (none)) else ((nth_number.f a0).bind fun bt107 => (some (bt107.1, bt107.2)))))) = some (r1, r2) := h
  clear h
  by_cases c2 : a0.toList = ([] : List UInt8)
  · rw [if_pos c2] at H
    have c2b0 : (a0.toList == ([] : List UInt8)) = true := beq_iff_eq.mpr c2
    have c2b1 : (a0.toList != ([] : List UInt8)) = false := bne_eq_false_iff_eq.mpr c2
    clear c2
    by_cases c3 : a0.size + 1 ≤ 9223372036854775807
    · rw [if_pos c3] at H
      have c3b0 := eq_true c3
      have c3b1 : decide (a0.size + 1 ≤ 9223372036854775807) = true := decide_eq_true c3
      try have c3b2 : (9223372036854775807 < a0.size + 1) = False := eq_false (Nat.not_lt.2 c3)
      replace H := Option.bind_eq_some_iff.mp H
      obtain ⟨⟨t101, t102⟩, A40, H⟩ := H
      replace H : (some (t101, t102)) = some (r1, r2) := H
      have A4 := Aside0.mk A40
      clear A40
      simp only [Option.some.injEq, Prod.mk.injEq] at H
      obtain ⟨rfl, rfl⟩ := H
      go_enter Tryd.func22, Tryd.ntmps22
      go_wp2_with (first | ((with_reducible refine gate_callee (f := 21) rfl ?_); refine goesL_ (some 17) rfl rfl Tryd.func21 (by kernel_rfl) rfl #[.string (a0 ++ (⟨#[49]⟩ : ByteArray))] rfl (by (try simp only [List.map_toArray, List.map_cons, List.map_nil]); first | done | rfl | (simp only [List.length_drop, List.length_take]; rfl)) ?_; (with_reducible refine (nth_number.calls (a0 ++ (⟨#[49]⟩ : ByteArray)) t101 t102 _ A4.out).mono ?_); rintro e w5 ⟨rfl, hb⟩; refine ⟨_, rfl, ?_⟩; have n0_ := Aside0.mk (below_step (by repeat (first | (with_reducible first | exact HB.out | apply below_alloc | apply pw_below_drewN | apply below_drew1) | exact HB.out)) hb); clear HB; have HB := n0_; clear n0_; (try clear hb); (try clear hb2); (try clear hk); (try clear hi)))
      go_ret2
      exact ⟨by first | rfl | (simp [errW_none, errW_some] <;> rfl) | (simp [*, errW_none, errW_some] <;> rfl), by repeat (first | (with_reducible first | exact HB.out | apply below_alloc | apply pw_below_drewN | apply below_drew1) | exact HB.out)⟩
    · rw [if_neg c3] at H
      exact absurd H (by simp)
  · rw [if_neg c2] at H
    have c2b0 : (a0.toList == ([] : List UInt8)) = false := beq_eq_false_iff_ne.mpr c2
    have c2b1 : (a0.toList != ([] : List UInt8)) = true := bne_iff_ne.mpr c2
    by_cases c6 : a0.toList = ([43] : List UInt8)
    · rw [if_pos c6] at H
      have c6b0 : (a0.toList == ([43] : List UInt8)) = true := beq_iff_eq.mpr c6
      have c6b1 : (a0.toList != ([43] : List UInt8)) = false := bne_eq_false_iff_eq.mpr c6
      clear c6
      by_cases c7 : a0.size + 1 ≤ 9223372036854775807
      · rw [if_pos c7] at H
        have c7b0 := eq_true c7
        have c7b1 : decide (a0.size + 1 ≤ 9223372036854775807) = true := decide_eq_true c7
        try have c7b2 : (9223372036854775807 < a0.size + 1) = False := eq_false (Nat.not_lt.2 c7)
        replace H := Option.bind_eq_some_iff.mp H
        obtain ⟨⟨t103, t104⟩, A80, H⟩ := H
        replace H : (some (t103, t104)) = some (r1, r2) := H
        have A8 := Aside0.mk A80
        clear A80
        simp only [Option.some.injEq, Prod.mk.injEq] at H
        obtain ⟨rfl, rfl⟩ := H
        go_enter Tryd.func22, Tryd.ntmps22
        go_wp2_with (first | ((with_reducible refine gate_callee (f := 21) rfl ?_); refine goesL_ (some 17) rfl rfl Tryd.func21 (by kernel_rfl) rfl #[.string (a0 ++ (⟨#[49]⟩ : ByteArray))] rfl (by (try simp only [List.map_toArray, List.map_cons, List.map_nil]); first | done | rfl | (simp only [List.length_drop, List.length_take]; rfl)) ?_; (with_reducible refine (nth_number.calls (a0 ++ (⟨#[49]⟩ : ByteArray)) t103 t104 _ A8.out).mono ?_); rintro e w9 ⟨rfl, hb⟩; refine ⟨_, rfl, ?_⟩; have n0_ := Aside0.mk (below_step (by repeat (first | (with_reducible first | exact HB.out | apply below_alloc | apply pw_below_drewN | apply below_drew1) | exact HB.out)) hb); clear HB; have HB := n0_; clear n0_; (try clear hb); (try clear hb2); (try clear hk); (try clear hi)))
        go_ret2
        exact ⟨by first | rfl | (simp [errW_none, errW_some] <;> rfl) | (simp [*, errW_none, errW_some] <;> rfl), by repeat (first | (with_reducible first | exact HB.out | apply below_alloc | apply pw_below_drewN | apply below_drew1) | exact HB.out)⟩
      · rw [if_neg c7] at H
        exact absurd H (by simp)
    · rw [if_neg c6] at H
      have c6b0 : (a0.toList == ([43] : List UInt8)) = false := beq_eq_false_iff_ne.mpr c6
      have c6b1 : (a0.toList != ([43] : List UInt8)) = true := bne_iff_ne.mpr c6
      by_cases c10 : a0.toList = ([45] : List UInt8)
      · rw [if_pos c10] at H
        have c10b0 : (a0.toList == ([45] : List UInt8)) = true := beq_iff_eq.mpr c10
        have c10b1 : (a0.toList != ([45] : List UInt8)) = false := bne_eq_false_iff_eq.mpr c10
        clear c10
        by_cases c11 : a0.size + 1 ≤ 9223372036854775807
        · rw [if_pos c11] at H
          have c11b0 := eq_true c11
          have c11b1 : decide (a0.size + 1 ≤ 9223372036854775807) = true := decide_eq_true c11
          try have c11b2 : (9223372036854775807 < a0.size + 1) = False := eq_false (Nat.not_lt.2 c11)
          replace H := Option.bind_eq_some_iff.mp H
          obtain ⟨⟨t105, t106⟩, A120, H⟩ := H
          replace H : (some (t105, t106)) = some (r1, r2) := H
          have A12 := Aside0.mk A120
          clear A120
          simp only [Option.some.injEq, Prod.mk.injEq] at H
          obtain ⟨rfl, rfl⟩ := H
          go_enter Tryd.func22, Tryd.ntmps22
          go_wp2_with (first | ((with_reducible refine gate_callee (f := 21) rfl ?_); refine goesL_ (some 17) rfl rfl Tryd.func21 (by kernel_rfl) rfl #[.string (a0 ++ (⟨#[49]⟩ : ByteArray))] rfl (by (try simp only [List.map_toArray, List.map_cons, List.map_nil]); first | done | rfl | (simp only [List.length_drop, List.length_take]; rfl)) ?_; (with_reducible refine (nth_number.calls (a0 ++ (⟨#[49]⟩ : ByteArray)) t105 t106 _ A12.out).mono ?_); rintro e w13 ⟨rfl, hb⟩; refine ⟨_, rfl, ?_⟩; have n0_ := Aside0.mk (below_step (by repeat (first | (with_reducible first | exact HB.out | apply below_alloc | apply pw_below_drewN | apply below_drew1) | exact HB.out)) hb); clear HB; have HB := n0_; clear n0_; (try clear hb); (try clear hb2); (try clear hk); (try clear hi)))
          go_ret2
          exact ⟨by first | rfl | (simp [errW_none, errW_some] <;> rfl) | (simp [*, errW_none, errW_some] <;> rfl), by repeat (first | (with_reducible first | exact HB.out | apply below_alloc | apply pw_below_drewN | apply below_drew1) | exact HB.out)⟩
        · rw [if_neg c11] at H
          exact absurd H (by simp)
      · rw [if_neg c10] at H
        have c10b0 : (a0.toList == ([45] : List UInt8)) = false := beq_eq_false_iff_ne.mpr c10
        have c10b1 : (a0.toList != ([45] : List UInt8)) = true := bne_iff_ne.mpr c10
        replace H := Option.bind_eq_some_iff.mp H
        obtain ⟨⟨t107, t108⟩, A140, H⟩ := H
        replace H : (some (t107, t108)) = some (r1, r2) := H
        have A14 := Aside0.mk A140
        clear A140
        simp only [Option.some.injEq, Prod.mk.injEq] at H
        obtain ⟨rfl, rfl⟩ := H
        go_enter Tryd.func22, Tryd.ntmps22
        go_wp2_with (first | ((with_reducible refine gate_callee (f := 21) rfl ?_); refine goesL_ (some 17) rfl rfl Tryd.func21 (by kernel_rfl) rfl #[.string a0] rfl (by (try simp only [List.map_toArray, List.map_cons, List.map_nil]); first | done | rfl | (simp only [List.length_drop, List.length_take]; rfl)) ?_; (with_reducible refine (nth_number.calls a0 t107 t108 _ A14.out).mono ?_); rintro e w15 ⟨rfl, hb⟩; refine ⟨_, rfl, ?_⟩; have n0_ := Aside0.mk (below_step (by repeat (first | (with_reducible first | exact HB.out | apply below_alloc | apply pw_below_drewN | apply below_drew1) | exact HB.out)) hb); clear HB; have HB := n0_; clear n0_; (try clear hb); (try clear hb2); (try clear hk); (try clear hi)))
        go_ret2
        exact ⟨by first | rfl | (simp [errW_none, errW_some] <;> rfl) | (simp [*, errW_none, errW_some] <;> rfl), by repeat (first | (with_reducible first | exact HB.out | apply below_alloc | apply pw_below_drewN | apply below_drew1) | exact HB.out)⟩
end Go.Proofs.YtmfnnhmlekdbjaaDoor.P
end
section
set_option linter.unusedVariables false
set_option linter.unusedSimpArgs false
namespace Go.Proofs.YtmfnnhmlekdbjaaDoor.P
open Go.RowKit Go.Proofs.YtmfnnhmlekdbjaaDoorW.PrintWords Go.Proofs.YtmfnnhmlekdbjaaDoorW.PrintLast Go.Proofs.YtmfnnhmlekdbjaaDoorW.PrintMore
attribute [local go_sem] max2_int min2_int max_two min_two max_three min_three max_four min_four
set_option linter.unusedVariables false
set_option linter.unusedSimpArgs false
def nth_more.j0 : Nat → ByteArray → Bool → Option (Int × Bool)
  | 0, _, _ => none
  | k + 1, x0, x20 => if x20 = true then (some (0, false)) else (if 1 ≤ (x0.size : Int) then ((strings_TrimPrefix.f (x0.extract 1 x0.size) (⟨#[32]⟩ : ByteArray)).bind fun t102 => (if t102.toList = ([] : List UInt8) then (some (0, false)) else (if 0 < (t102.size : Int) then ((text_Digit.f (wrap32 (bt t102 0))).bind fun t103 => (if t103 = true then (if (x0.extract 0 1).size + t102.size ≤ 9223372036854775807 then ((nth_number.f ((x0.extract 0 1) ++ t102)).bind fun bt104 => (some (bt104.1, bt104.2))) else (none)) else (some (0, false)))) else (none)))) else (none))
def nth_more.f (k : Nat) (a0 : ByteArray) : Option (Int × Bool) := if a0.toList = ([] : List UInt8) then (some (0, true)) else ((strings_TrimPrefix.f a0 (⟨#[32]⟩ : ByteArray)).bind fun t101 => (if t101.toList = ([] : List UInt8) then (nth_more.j0 k t101 true) else (if 0 < (t101.size : Int) then (if (bt t101 0) = 43 then (nth_more.j0 k t101 false) else (nth_more.j0 k t101 ((bt t101 0) != 45))) else (none))))
set_option maxHeartbeats 8000000 in
set_option maxRecDepth 100000 in
theorem nth_more.calls (k : Nat) (a0 : ByteArray) (r1 : Int) (r2 : Bool) (w : World) (h : nth_more.f k a0 = some (r1, r2)) :
    Calls Tryd.prog 23 #[.string a0] w fun e w' => e = .returned (.tuple #[.int .i64 r1, .bool r2]) ∧ Below w.heap.size w w' := by
  have HB := Aside0.mk (Below.refl w.heap.size w)
  have H : (if a0.toList = ([] : List UInt8) then (some (0, true)) else ((strings_TrimPrefix.f a0 (⟨#[32]⟩ : ByteArray)).bind fun t101 => (if t101.toList = ([] : List UInt8) then (nth_more.j0 k t101 true) else (if 0 < (t101.size : Int) then (if (bt t101 0) = 43 then (nth_more.j0 k t101 false) else (nth_more.j0 k t101 ((bt t101 0) != 45))) else (none))))) = some (r1, r2) := h
  clear h
  by_cases c2 : a0.toList = ([] : List UInt8)
  · rw [if_pos c2] at H
    have c2b0 : (a0.toList == ([] : List UInt8)) = true := beq_iff_eq.mpr c2
    have c2b1 : (a0.toList != ([] : List UInt8)) = false := bne_eq_false_iff_eq.mpr c2
    clear c2
    simp only [Option.some.injEq, Prod.mk.injEq] at H
    obtain ⟨rfl, rfl⟩ := H
    go_enter Tryd.func23, Tryd.ntmps23
    go_wp2
    go_ret2
    exact ⟨by first | rfl | (simp [errW_none, errW_some] <;> rfl) | (simp [*, errW_none, errW_some] <;> rfl), by repeat (first | (with_reducible first | exact HB.out | apply below_alloc | apply pw_below_drewN | apply below_drew1) | exact HB.out)⟩
  · rw [if_neg c2] at H
    have c2b0 : (a0.toList == ([] : List UInt8)) = false := beq_eq_false_iff_ne.mpr c2
    have c2b1 : (a0.toList != ([] : List UInt8)) = true := bne_iff_ne.mpr c2
    replace H := Option.bind_eq_some_iff.mp H
    obtain ⟨t101, A30, H⟩ := H
    replace H : (if t101.toList = ([] : List UInt8) then (nth_more.j0 k t101 true) else (if 0 < (t101.size : Int) then (if (bt t101 0) = 43 then (nth_more.j0 k t101 false) else (nth_more.j0 k t101 ((bt t101 0) != 45))) else (none))) = some (r1, r2) := H
    have A3 := Aside0.mk A30
    clear A30
    have HC4 := Aside0.mk H
    clear H
    go_enter Tryd.func23, Tryd.ntmps23
    go_upto_region 4 with (first | ((with_reducible refine gate_callee (f := 36) rfl ?_); refine goesL_ (some 8) rfl rfl Tryd.func36 (by kernel_rfl) rfl #[.string a0, .string (⟨#[32]⟩ : ByteArray)] rfl (by (try simp only [List.map_toArray, List.map_cons, List.map_nil]); first | done | rfl | (simp only [List.length_drop, List.length_take]; rfl)) ?_; (with_reducible refine (strings_TrimPrefix.calls a0 (⟨#[32]⟩ : ByteArray) t101 _ A3.out).mono ?_); rintro e w5 ⟨rfl, hb⟩; refine ⟨_, rfl, ?_⟩; have n0_ := Aside0.mk (below_step (by repeat (first | (with_reducible first | exact HB.out | apply below_alloc | apply pw_below_drewN | apply below_drew1) | exact HB.out)) hb); clear HB; have HB := n0_; clear n0_; (try clear hb); (try clear hb2); (try clear hk); (try clear hi)))
    (try simp only [Act.put, List.setIfInBounds_toArray, List.set_cons_zero, List.set_cons_succ])
    go_cut [20] (fun v20 wc => ∃ (kq : Nat) (x20_3 : Bool), v20 = .bool x20_3 ∧ Aside0 (nth_more.j0 kq t101 x20_3 = some (r1, r2)) ∧ Aside0 (kq ≤ k) ∧ Aside0 (Below w.heap.size w wc))
    case first =>
      have H := HC4.out
      clear HC4
      by_cases c6 : t101.toList = ([] : List UInt8)
      · rw [if_pos c6] at H
        have c6b0 : (t101.toList == ([] : List UInt8)) = true := beq_iff_eq.mpr c6
        have c6b1 : (t101.toList != ([] : List UInt8)) = false := bne_eq_false_iff_eq.mpr c6
        clear c6
        (first | rw [c6b0] | (simp only [i64_w, i32_w]; rw [c6b0]) | skip)
        have H' := Aside0.mk H
        clear H
        go_wp2
        go_meet
        case rel => exact ⟨_, (true), (by first | rfl | (simp; done) | (simp [*]; done)), H', ⟨by first | omega | exact Nat.le_refl _⟩, ⟨by repeat (first | (with_reducible first | exact HB.out | apply below_alloc | apply pw_below_drewN | apply below_drew1) | exact HB.out)⟩⟩
      · rw [if_neg c6] at H
        have c6b0 : (t101.toList == ([] : List UInt8)) = false := beq_eq_false_iff_ne.mpr c6
        have c6b1 : (t101.toList != ([] : List UInt8)) = true := bne_iff_ne.mpr c6
        (first | rw [c6b0] | (simp only [i64_w, i32_w]; rw [c6b0]) | skip)
        by_cases c7 : 0 < (t101.size : Int)
        · rw [if_pos c7] at H
          have c7b0 : decide (0 < (t101.size : Int)) = true := decide_eq_true c7
          have c7b1 : decide (0 < t101.size) = true := decide_eq_true (by omega)
          clear c7
          by_cases c9 : (bt t101 0) = 43
          · rw [if_pos c9] at H
            have c9b0 : ((bt t101 0) == 43) = true := beq_iff_eq.mpr c9
            have c9b1 : ((bt t101 0) != 43) = false := bne_eq_false_iff_eq.mpr c9
            clear c9
            have H' := Aside0.mk H
            clear H
            have p8 : 0 ≤ (0 : Int) := (by omega)
            have q8 : 0 < t101.size := (by have : (0 : Int) < (t101.size : Int) := of_decide_eq_true (by first | (with_reducible assumption) | assumption); omega)
            have hx8 : ∀ h : 0 < t101.size, ((t101[0]'h).toNat : Int) = bt t101 0 := bt_at t101 0
            clear p8
            have qi8 : (0 < (t101.size : Int)) = True := eq_true (of_decide_eq_true (by first | (with_reducible assumption) | assumption))
            replace q8 := eq_true q8
            go_wp2
            go_meet
            case rel => exact ⟨_, (false), (by first | rfl | (simp; done) | (simp [*]; done)), H', ⟨by first | omega | exact Nat.le_refl _⟩, ⟨by repeat (first | (with_reducible first | exact HB.out | apply below_alloc | apply pw_below_drewN | apply below_drew1) | exact HB.out)⟩⟩
          · rw [if_neg c9] at H
            have c9b0 : ((bt t101 0) == 43) = false := beq_eq_false_iff_ne.mpr c9
            have c9b1 : ((bt t101 0) != 43) = true := bne_iff_ne.mpr c9
            have H' := Aside0.mk H
            clear H
            have p8 : 0 ≤ (0 : Int) := (by omega)
            have q8 : 0 < t101.size := (by have : (0 : Int) < (t101.size : Int) := of_decide_eq_true (by first | (with_reducible assumption) | assumption); omega)
            have hx8 : ∀ h : 0 < t101.size, ((t101[0]'h).toNat : Int) = bt t101 0 := bt_at t101 0
            clear p8
            have qi8 : (0 < (t101.size : Int)) = True := eq_true (of_decide_eq_true (by first | (with_reducible assumption) | assumption))
            replace q8 := eq_true q8
            have p10 : 0 ≤ (0 : Int) := (by omega)
            have q10 : 0 < t101.size := (by have : (0 : Int) < (t101.size : Int) := of_decide_eq_true (by first | (with_reducible assumption) | assumption); omega)
            have hx10 : ∀ h : 0 < t101.size, ((t101[0]'h).toNat : Int) = bt t101 0 := bt_at t101 0
            clear p10
            have qi10 : (0 < (t101.size : Int)) = True := eq_true (of_decide_eq_true (by first | (with_reducible assumption) | assumption))
            replace q10 := eq_true q10
            go_wp2
            go_meet
            case rel => exact ⟨_, (((bt t101 0) != 45)), (by first | rfl | (simp; done) | (simp [*]; done)), H', ⟨by first | omega | exact Nat.le_refl _⟩, ⟨by repeat (first | (with_reducible first | exact HB.out | apply below_alloc | apply pw_below_drewN | apply below_drew1) | exact HB.out)⟩⟩
        · rw [if_neg c7] at H
          exact absurd H (by simp)
    case rest =>
      clear HC4
      try clear p1
      try clear q1
      try clear hx1
      try clear qi1
      try clear c2
      try clear c2b0
      try clear c2b1
      try clear p2
      try clear c3
      try clear c6
      try clear c6b0
      try clear c6b1
      try clear c7
      try clear c7b0
      try clear c7b1
      try clear p8
      try clear q8
      try clear hx8
      try clear qi8
      try clear c9
      try clear c9b0
      try clear c9b1
      try clear p10
      try clear q10
      try clear hx10
      try clear qi10
      try clear p10
      try clear p8
      try clear q10
      try clear q8
      obtain ⟨kq, x20_3, rfl, HA, HJ3, HB⟩ := hcut
      cases kq with
      | zero => exact absurd HA.out (by simp [nth_more.j0])
      | succ kj3 =>
        have H := HA.out
        clear HA
        simp only [nth_more.j0] at H
        by_cases c11 : x20_3 = true
        · subst c11
          have H1 : (some (0, false)) = some (r1, r2) := by rw [if_pos rfl] at H; exact H
          clear H
          have H := H1
          clear H1
          simp only [Option.some.injEq, Prod.mk.injEq] at H
          obtain ⟨rfl, rfl⟩ := H
          go_wp2
          go_ret2
          exact ⟨by first | rfl | (simp [errW_none, errW_some] <;> rfl) | (simp [*, errW_none, errW_some] <;> rfl), by repeat (first | (with_reducible first | exact HB.out | apply below_alloc | apply pw_below_drewN | apply below_drew1) | exact HB.out)⟩
        · replace c11 := Bool.eq_false_iff.mpr c11
          subst c11
          have H1 : (if 1 ≤ (t101.size : Int) then ((strings_TrimPrefix.f (t101.extract 1 t101.size) (⟨#[32]⟩ : ByteArray)).bind fun t102 => (if t102.toList = ([] : List UInt8) then (some (0, false)) else (if 0 < (t102.size : Int) then ((text_Digit.f (wrap32 (bt t102 0))).bind fun t103 => (if t103 = true then (if (t101.extract 0 1).size + t102.size ≤ 9223372036854775807 then ((nth_number.f ((t101.extract 0 1) ++ t102)).bind fun bt104 => (some (bt104.1, bt104.2))) else (none)) else (some (0, false)))) else (none)))) else (none)) = some (r1, r2) := by rw [if_neg (show ¬ (false = true) by decide)] at H; exact H
          clear H
          have H := H1
          clear H1
          by_cases c12 : 1 ≤ (t101.size : Int)
          · rw [if_pos c12] at H
            have c12b0 := eq_true c12
            have c12b1 : decide (1 ≤ (t101.size : Int)) = true := decide_eq_true c12
            clear c12
            replace H := Option.bind_eq_some_iff.mp H
            obtain ⟨t102, A130, H⟩ := H
            replace H : (if t102.toList = ([] : List UInt8) then (some (0, false)) else (if 0 < (t102.size : Int) then ((text_Digit.f (wrap32 (bt t102 0))).bind fun t103 => (if t103 = true then (if (t101.extract 0 1).size + t102.size ≤ 9223372036854775807 then ((nth_number.f ((t101.extract 0 1) ++ t102)).bind fun bt104 => (some (bt104.1, bt104.2))) else (none)) else (some (0, false)))) else (none))) = some (r1, r2) := H
            have A13 := Aside0.mk A130
            clear A130
            by_cases c14 : t102.toList = ([] : List UInt8)
            · rw [if_pos c14] at H
              have c14b0 : (t102.toList == ([] : List UInt8)) = true := beq_iff_eq.mpr c14
              have c14b1 : (t102.toList != ([] : List UInt8)) = false := bne_eq_false_iff_eq.mpr c14
              clear c14
              simp only [Option.some.injEq, Prod.mk.injEq] at H
              obtain ⟨rfl, rfl⟩ := H
              go_wp2_with (first | ((with_reducible refine gate_callee (f := 36) rfl ?_); refine goesL_ (some 23) rfl rfl Tryd.func36 (by kernel_rfl) rfl #[.string (t101.extract 1 t101.size), .string (⟨#[32]⟩ : ByteArray)] rfl (by (try simp only [List.map_toArray, List.map_cons, List.map_nil]); first | done | rfl | (simp only [List.length_drop, List.length_take]; rfl)) ?_; (with_reducible refine (strings_TrimPrefix.calls (t101.extract 1 t101.size) (⟨#[32]⟩ : ByteArray) t102 _ A13.out).mono ?_); rintro e w15 ⟨rfl, hb⟩; refine ⟨_, rfl, ?_⟩; have n0_ := Aside0.mk (below_step (by repeat (first | (with_reducible first | exact HB.out | apply below_alloc | apply pw_below_drewN | apply below_drew1) | exact HB.out)) hb); clear HB; have HB := n0_; clear n0_; (try clear hb); (try clear hb2); (try clear hk); (try clear hi)))
              go_ret2
              exact ⟨by first | rfl | (simp [errW_none, errW_some] <;> rfl) | (simp [*, errW_none, errW_some] <;> rfl), by repeat (first | (with_reducible first | exact HB.out | apply below_alloc | apply pw_below_drewN | apply below_drew1) | exact HB.out)⟩
            · rw [if_neg c14] at H
              have c14b0 : (t102.toList == ([] : List UInt8)) = false := beq_eq_false_iff_ne.mpr c14
              have c14b1 : (t102.toList != ([] : List UInt8)) = true := bne_iff_ne.mpr c14
              by_cases c16 : 0 < (t102.size : Int)
              · rw [if_pos c16] at H
                have c16b0 : decide (0 < (t102.size : Int)) = true := decide_eq_true c16
                have c16b1 : decide (0 < t102.size) = true := decide_eq_true (by omega)
                clear c16
                replace H := Option.bind_eq_some_iff.mp H
                obtain ⟨t103, A180, H⟩ := H
                replace H : (if t103 = true then (if (t101.extract 0 1).size + t102.size ≤ 9223372036854775807 then ((nth_number.f ((t101.extract 0 1) ++ t102)).bind fun bt104 => (some (bt104.1, bt104.2))) else (none)) else (some (0, false))) = some (r1, r2) := H
                have A18 := Aside0.mk A180
                clear A180
                by_cases c19 : t103 = true
                · subst c19
                  have H1 : (if (t101.extract 0 1).size + t102.size ≤ 9223372036854775807 then ((nth_number.f ((t101.extract 0 1) ++ t102)).bind fun bt104 => (some (bt104.1, bt104.2))) else (none)) = some (r1, r2) := by rw [if_pos rfl] at H; exact H
                  clear H
                  have H := H1
                  clear H1
                  have c20b0 := eq_true (of_decide_eq_true (by first | (with_reducible assumption) | assumption) : 1 ≤ (t101.size : Int))
                  by_cases c21 : (t101.extract 0 1).size + t102.size ≤ 9223372036854775807
                  · rw [if_pos c21] at H
                    have c21b0 := eq_true c21
                    have c21b1 : decide ((t101.extract 0 1).size + t102.size ≤ 9223372036854775807) = true := decide_eq_true c21
                    try have c21b2 : (9223372036854775807 < (t101.extract 0 1).size + t102.size) = False := eq_false (Nat.not_lt.2 c21)
                    replace H := Option.bind_eq_some_iff.mp H
                    obtain ⟨⟨t104, t105⟩, A220, H⟩ := H
                    replace H : (some (t104, t105)) = some (r1, r2) := H
                    have A22 := Aside0.mk A220
                    clear A220
                    simp only [Option.some.injEq, Prod.mk.injEq] at H
                    obtain ⟨rfl, rfl⟩ := H
                    go_wp2_with (first | ((with_reducible refine gate_callee (f := 36) rfl ?_); refine goesL_ (some 23) rfl rfl Tryd.func36 (by kernel_rfl) rfl #[.string (t101.extract 1 t101.size), .string (⟨#[32]⟩ : ByteArray)] rfl (by (try simp only [List.map_toArray, List.map_cons, List.map_nil]); first | done | rfl | (simp only [List.length_drop, List.length_take]; rfl)) ?_; (with_reducible refine (strings_TrimPrefix.calls (t101.extract 1 t101.size) (⟨#[32]⟩ : ByteArray) t102 _ A13.out).mono ?_); rintro e w23 ⟨rfl, hb⟩; refine ⟨_, rfl, ?_⟩; have n0_ := Aside0.mk (below_step (by repeat (first | (with_reducible first | exact HB.out | apply below_alloc | apply pw_below_drewN | apply below_drew1) | exact HB.out)) hb); clear HB; have HB := n0_; clear n0_; (try clear hb); (try clear hb2); (try clear hk); (try clear hi); have p17 : 0 ≤ (0 : Int) := (by omega); have q17 : 0 < t102.size := (by have : (0 : Int) < (t102.size : Int) := of_decide_eq_true (by first | (with_reducible assumption) | assumption); omega); have hx17 : ∀ h : 0 < t102.size, ((t102[0]'h).toNat : Int) = bt t102 0 := bt_at t102 0; clear p17; have qi17 : (0 < (t102.size : Int)) = True := eq_true (of_decide_eq_true (by first | (with_reducible assumption) | assumption)); replace q17 := eq_true q17) | (go_at_call 35; (with_reducible refine (text_Digit.calls (wrap32 (bt t102 0)) true _ A18.out).mono ?_); rintro e w24 ⟨rfl, hb⟩; have n0_ := Aside0.mk (below_step (by repeat (first | (with_reducible first | exact HB.out | apply below_alloc | apply pw_below_drewN | apply below_drew1) | exact HB.out)) hb); clear HB; have HB := n0_; clear n0_; (try clear hb); (try clear hb2); (try clear hk); (try clear hi)) | ((with_reducible refine gate_callee (f := 21) rfl ?_); refine goesL_ (some 37) rfl rfl Tryd.func21 (by kernel_rfl) rfl #[.string ((t101.extract 0 1) ++ t102)] rfl (by (try simp only [List.map_toArray, List.map_cons, List.map_nil]); first | done | rfl | (simp only [List.length_drop, List.length_take]; rfl)) ?_; (with_reducible refine (nth_number.calls ((t101.extract 0 1) ++ t102) t104 t105 _ A22.out).mono ?_); rintro e w25 ⟨rfl, hb⟩; refine ⟨_, rfl, ?_⟩; have n0_ := Aside0.mk (below_step (by repeat (first | (with_reducible first | exact HB.out | apply below_alloc | apply pw_below_drewN | apply below_drew1) | exact HB.out)) hb); clear HB; have HB := n0_; clear n0_; (try clear hb); (try clear hb2); (try clear hk); (try clear hi)))
                    go_ret2
                    exact ⟨by first | rfl | (simp [errW_none, errW_some] <;> rfl) | (simp [*, errW_none, errW_some] <;> rfl), by repeat (first | (with_reducible first | exact HB.out | apply below_alloc | apply pw_below_drewN | apply below_drew1) | exact HB.out)⟩
                  · rw [if_neg c21] at H
                    exact absurd H (by simp)
                · replace c19 := Bool.eq_false_iff.mpr c19
                  subst c19
                  have H1 : (some (0, false)) = some (r1, r2) := by rw [if_neg (show ¬ (false = true) by decide)] at H; exact H
                  clear H
                  have H := H1
                  clear H1
                  simp only [Option.some.injEq, Prod.mk.injEq] at H
                  obtain ⟨rfl, rfl⟩ := H
                  go_wp2_with (first | ((with_reducible refine gate_callee (f := 36) rfl ?_); refine goesL_ (some 23) rfl rfl Tryd.func36 (by kernel_rfl) rfl #[.string (t101.extract 1 t101.size), .string (⟨#[32]⟩ : ByteArray)] rfl (by (try simp only [List.map_toArray, List.map_cons, List.map_nil]); first | done | rfl | (simp only [List.length_drop, List.length_take]; rfl)) ?_; (with_reducible refine (strings_TrimPrefix.calls (t101.extract 1 t101.size) (⟨#[32]⟩ : ByteArray) t102 _ A13.out).mono ?_); rintro e w26 ⟨rfl, hb⟩; refine ⟨_, rfl, ?_⟩; have n0_ := Aside0.mk (below_step (by repeat (first | (with_reducible first | exact HB.out | apply below_alloc | apply pw_below_drewN | apply below_drew1) | exact HB.out)) hb); clear HB; have HB := n0_; clear n0_; (try clear hb); (try clear hb2); (try clear hk); (try clear hi); have p17 : 0 ≤ (0 : Int) := (by omega); have q17 : 0 < t102.size := (by have : (0 : Int) < (t102.size : Int) := of_decide_eq_true (by first | (with_reducible assumption) | assumption); omega); have hx17 : ∀ h : 0 < t102.size, ((t102[0]'h).toNat : Int) = bt t102 0 := bt_at t102 0; clear p17; have qi17 : (0 < (t102.size : Int)) = True := eq_true (of_decide_eq_true (by first | (with_reducible assumption) | assumption)); replace q17 := eq_true q17) | (go_at_call 35; (with_reducible refine (text_Digit.calls (wrap32 (bt t102 0)) false _ A18.out).mono ?_); rintro e w27 ⟨rfl, hb⟩; have n0_ := Aside0.mk (below_step (by repeat (first | (with_reducible first | exact HB.out | apply below_alloc | apply pw_below_drewN | apply below_drew1) | exact HB.out)) hb); clear HB; have HB := n0_; clear n0_; (try clear hb); (try clear hb2); (try clear hk); (try clear hi)))
                  go_ret2
                  exact ⟨by first | rfl | (simp [errW_none, errW_some] <;> rfl) | (simp [*, errW_none, errW_some] <;> rfl), by repeat (first | (with_reducible first | exact HB.out | apply below_alloc | apply pw_below_drewN | apply below_drew1) | exact HB.out)⟩
              · rw [if_neg c16] at H
                exact absurd H (by simp)
          · rw [if_neg c12] at H
            exact absurd H (by simp)
end Go.Proofs.YtmfnnhmlekdbjaaDoor.P
end
