/- The law TokenWrites (layer 2): the row and its tied card: for every input the law returns true, and the arguments read behind the call as they read before. No condition of ours. -/
import Derived.Test.YtpnlbmeeihbjaabDoorZWT11
import Derived.Shelf.Spec.TrailingZeros
import Derived.Lib.ItoaWalk
section
set_option linter.unusedVariables false
set_option linter.unusedSimpArgs false
namespace Go.Proofs.YtpnlbmeeihbjaabDoor.P
open Go.RowKit Go.Proofs.YtpnlbmeeihbjaabDoorW.PrintWords Go.Proofs.YtpnlbmeeihbjaabDoorW.PrintLast Go.Proofs.YtpnlbmeeihbjaabDoorW.PrintMore
open Go.Lib
attribute [local go_sem] max2_int min2_int max_two min_two max_three min_three max_four min_four
set_option linter.unusedVariables false
set_option linter.unusedSimpArgs false
open Go.Lib Go.Sort
def WT (w : World) : Prop := w.cell? ⟨3, 15, none⟩ = some (.int .u8 4)
theorem WT.below {w W : World} (h : WT w) (hb : Below w.heap.size w W) : WT W := pw_cell_below hb h
theorem key16 : IntKind.u64.wrap (bits BinOp.and IntKind.u64 16 (IntKind.u64.wrap (-16)) * 285870213051353865) / 288230376151711744 = 15 := by decide +kernel
set_option maxRecDepth 100000 in
theorem tz64_calls (w : World) (hT : WT w) : Calls Tryd.prog 105 #[.int .u64 16] w fun e w' => e = .returned (.int .i64 4) ∧ w' = w := by
  have key := key16
  have hcell : w.cell? ⟨3, 15, none⟩ = some (.int .u8 4) := hT
  go_enter Tryd.func105, Tryd.ntmps105
  go_wp2_with (simp only [key])
  go_ret
  exact ⟨rfl, rfl⟩
set_option maxRecDepth 100000 in
theorem tz_calls (w : World) (hT : WT w) : Calls Tryd.prog 102 #[.int .u64 16] w fun e w' => e = .returned (.int .i64 4) ∧ w' = w := by
  have c64 := tz64_calls w hT
  go_enter Tryd.func102, Tryd.ntmps102
  go_wp2_with (go_at_call 105; refine c64.mono ?_; rintro e w' ⟨rfl, hw'⟩; rw [hw'])
  go_ret
  exact ⟨rfl, rfl⟩
def hexB (i : Nat) : UInt8 := if i < 10 then UInt8.ofNat (48 + i) else UInt8.ofNat (87 + i)
def hexL : Nat → Nat → List UInt8
  | 0, _ => []
  | k + 1, u => if u < 16 then [hexB u] else hexL k (u / 16) ++ [hexB (u % 16)]
def hexDS : ByteArray := ⟨#[48, 49, 50, 51, 52, 53, 54, 55, 56, 57, 97, 98, 99, 100, 101, 102, 103, 104, 105, 106, 107, 108, 109, 110, 111, 112, 113, 114, 115, 116, 117, 118, 119, 120, 121, 122]⟩
theorem hexDS_at (i : Nat) (h : i < 16) (hs : i < hexDS.size) : hexDS[i] = hexB i := by
  have : ∀ i : Fin 16, hexDS.data.toList.getD i.val 0 = hexB i.val := by decide +kernel
  rw [getD_at]; exact this ⟨i, h⟩
abbrev encB : UInt8 → Value := fun (b : UInt8) => Value.int .u8 (b.toNat : Int)
theorem zero94 (j : Nat) (hj : j < 65) : Tryd.zeroCells94[j]? = some (.int .u8 0) := by
  have e : Tryd.zeroCells94 = Array.replicate 65 (.int .u8 0) := by kernel_rfl
  rw [e, Array.getElem?_replicate, if_pos hj]
theorem holds94 (w : World) : Holds encB (w.alloc (.cells Tryd.zeroCells94 94)) w.heap.size 0 (Array.replicate 65 (0 : UInt8)) := fun j hj => by
  rw [Array.size_replicate] at hj
  refine ⟨?_, World.frozen?_alloc_new _ _ _ _⟩
  rw [Nat.zero_add, World.cell?_alloc_new, zero94 j hj]
  simp [encB, hj]
theorem and15 (u : Nat) (h : u < 18446744073709551616) : bits .and .u64 (u : Int) 15 = ((u % 16 : Nat) : Int) := by
  rw [show (15 : Int) = ((15 : Nat) : Int) from rfl, bits_and_u64_nat u 15 h (by omega), show (15 : Nat) = 2 ^ 4 - 1 from rfl, Nat.and_two_pow_sub_one_eq_mod]
theorem drop_set (dk : Array UInt8) (i : Nat) (x : UInt8) (hi : i < dk.size) : (dk.setIfInBounds i x).toList.drop i = x :: dk.toList.drop (i + 1) := by
  rw [Array.toList_setIfInBounds, List.drop_set, if_neg (Nat.lt_irrefl i), Nat.sub_self, List.drop_eq_getElem_cons (by simpa using hi)]
  rfl
theorem conv_tail (W : World) (b i c : Nat) (dk : Array UInt8) (hH : Holds encB W b 0 dk) : (convert 40 9 (.slice (some ⟨b, i, none⟩) (dk.size - i) c)).run Tryd.prog W = .ok (.string ⟨(dk.toList.drop i).toArray⟩) W := by
  have h := run_convert_bytes_back (P := Tryd.prog) W 40 9 5 ⟨b, i, none⟩ c (dk.toList.drop i) Tryd.underlying40 Tryd.underlying5 Tryd.underlying9 (fun j hj => by
    rw [List.length_drop, Array.length_toList] at hj
    have h1 := (hH (i + j) (by omega)).1
    rw [Nat.zero_add] at h1
    rw [Lib.add_plain, h1, getElem!_pos _ (i + j) (by omega)]
    simp [encB])
  rw [List.length_drop, Array.length_toList] at h
  exact h
set_option maxHeartbeats 16000000 in
set_option maxRecDepth 100000 in
theorem fmt16_calls (u : Nat) (hu : u < 4294967296) (w : World) (hT : WT w) :
    Calls Tryd.prog 92 #[.slice none 0 0, .int .u64 u, .int .i64 16, .bool false, .bool false] w fun e w' => e = .returned (.tuple #[.slice none 0 0, .string ⟨(hexL 8 u).toArray⟩]) ∧ Below w.heap.size w w' := by
  have c1 := tz_calls (w.alloc (Obj.cells Tryd.zeroCells94 94)) (hT.below (below_alloc (Below.refl w.heap.size w) _))
  have AH0 := Aside0.mk (holds94 w)
  have HU := Aside0.mk hu
  clear hu hT
  go_enter Tryd.func92, Tryd.ntmps92
  go_wp2_with (first | (go_at_call 102; refine c1.mono ?_; rintro e w' ⟨rfl, hw'⟩; rw [hw']) | (go_at_call 101; go_in) | fail)
  clear c1
  go_loopg [1, 13] 7 (fun kq v1 v13 w' => ∃ (u' i : Nat) (dk : Array UInt8), v1 = .int .u64 u' ∧ v13 = .int .i64 (i + 1) ∧ Aside0 (u' < 16 ^ (kq + 1)) ∧ Aside0 (i = 57 + kq ∧ kq ≤ 7) ∧ Aside0 (dk.size = 65) ∧ Aside0 (hexL 8 u = hexL (kq + 1) u' ++ dk.toList.drop (i + 1)) ∧ Aside0 (w' = putRow encB (w.alloc (.cells Tryd.zeroCells94 94)) w.heap.size 0 dk) ∧ Aside0 (Below w.heap.size w w'))
  case atStart => exact ⟨u, 64, Array.replicate 65 0, rfl, rfl, ⟨HU.out⟩, ⟨by omega⟩, ⟨by simp⟩, ⟨by simp⟩, ⟨(putRow_self _ _ _ _ _ AH0.out).symm⟩, ⟨below_alloc (Below.refl w.heap.size w) _⟩⟩
  case round =>
    obtain ⟨u', i, dk, rfl, rfl, HL, HI, HS, HE, HW, HB⟩ := hrel
    have hu64 : u' < 4294967296 := Nat.lt_of_lt_of_le HL.out (by
      have : 16 ^ (gk + 1) ≤ 16 ^ 8 := Nat.pow_le_pow_right (by omega) (by have := HI.out; omega)
      have e : 16 ^ 8 = 4294967296 := by decide
      omega)
    have hi64 : i < 65 := by have := HI.out; omega
    have hH := holds_putRow encB _ w.heap.size 0 _ dk AH0.out (by rw [HS.out]; simp)
    rw [← HW.out] at hH
    have hcell : wr.cell? ⟨w.heap.size, i, none⟩ = some (.int .u8 (dk[i]!.toNat : Int)) := by have := (hH i (by rw [HS.out]; omega)).1; rwa [Nat.zero_add] at this
    have hfr : wr.frozen? ⟨w.heap.size, i, none⟩ = false := by have := (hH i (by rw [HS.out]; omega)).2; rwa [Nat.zero_add] at this
    have HH := Aside0.mk hH
    clear hH
    by_cases c0 : u' < 16
    · have hal : Tryd.prog.arrayLen 94 = 65 := by kernel_rfl
      have hsl : ∀ W : World, (Instr.sliceAt 94 (.pointer (some ⟨w.heap.size, 0, none⟩)) (some (.int .i64 i)) none none).run Tryd.prog W = .ok (.slice (some ⟨w.heap.size, i, none⟩) (65 - i) (65 - i)) W := fun W => by
        rw [run_sliceAt_array_l W 94 ⟨w.heap.size, 0, none⟩ (by kernel_rfl) .i64 (i : Int) (by omega) (by rw [hal]; omega)]
        go_simp
        omega
      clear hal
      go_upto_region 25 with fail
      go_name_world W1 hW1
      have HX : Aside0 (W1 = putRow encB (w.alloc (.cells Tryd.zeroCells94 94)) w.heap.size 0 (dk.setIfInBounds i (hexB u')) ∧ Below w.heap.size w W1) := ⟨by
        have e := putRow_set encB (w.alloc (.cells Tryd.zeroCells94 94)) w.heap.size 0 dk i (hexB u') (by rw [HS.out]; omega)
        rw [Nat.zero_add, ← HW.out] at e
        refine ⟨?_, by rw [← hW1]; exact below_set HB.out (Nat.le_refl _)⟩
        rw [← hW1, ← e]
        exact congrArg (fun z : UInt8 => wr.setCell ⟨w.heap.size, i, none⟩ (.int .u8 (z.toNat : Int))) (hexDS_at u' c0 _)⟩
      clear hW1
      have hcv : (convert 40 9 (.slice (some ⟨w.heap.size, i, none⟩) (65 - i) (65 - i))).run Tryd.prog W1 = .ok (.string ⟨(hexL 8 u).toArray⟩) W1 := by
        have h := conv_tail W1 w.heap.size i (65 - i) (dk.setIfInBounds i (hexB u')) (by rw [HX.out.1]; exact holds_putRow encB _ w.heap.size 0 _ _ AH0.out (by rw [Array.size_setIfInBounds, HS.out]; simp))
        rw [Array.size_setIfInBounds, HS.out, drop_set dk i _ (by rw [HS.out]; omega)] at h
        rw [h, HE.out, hexL, if_pos c0]
        rfl
      clear hcell hfr
      go_wp2_with fail
      go_ret2
      exact ⟨rfl, HX.out.2⟩
    · have ha := and15 u' (by omega)
      have hk1 : 1 ≤ gk := by
        rcases Nat.eq_zero_or_pos gk with h | h
        · have := HL.out; rw [h] at this; omega
        · exact h
      obtain ⟨k, rfl⟩ : ∃ k, gk = k + 1 := ⟨gk - 1, by omega⟩
      go_wp2_with fail
      go_roundg k
      case measure => omega
      case rel =>
        have e := putRow_set encB (w.alloc (.cells Tryd.zeroCells94 94)) w.heap.size 0 dk i (hexB (u' % 16)) (by rw [HS.out]; omega)
        rw [Nat.zero_add, ← HW.out] at e
        have hdv : u' / 16 < 16 ^ (k + 1) := by have := HL.out; rw [Nat.pow_succ] at this; exact Nat.div_lt_of_lt_mul (by rw [Nat.mul_comm]; exact this)
        refine ⟨u' / 16, i - 1, dk.setIfInBounds i (hexB (u' % 16)), rfl, by congr 1; have := HI.out; omega, ⟨hdv⟩, ⟨by have := HI.out; omega⟩, ⟨by rw [Array.size_setIfInBounds]; exact HS.out⟩, ⟨?_⟩, ⟨?_⟩, ⟨below_set HB.out (Nat.le_refl _)⟩⟩
        · rw [show i - 1 + 1 = i by have := HI.out; omega, drop_set dk i _ (by rw [HS.out]; omega), HE.out, hexL, if_neg c0, List.append_assoc]
          rfl
        · rw [← e]
          exact congrArg (fun z : UInt8 => wr.setCell ⟨w.heap.size, i, none⟩ (.int .u8 (z.toNat : Int))) (hexDS_at (u' % 16) (by omega) _)
set_option maxRecDepth 100000 in
theorem fmtint0_calls (u : Nat) (hu : u < 2147483648) (w : World) (hT : WT w) :
    Calls Tryd.prog 79 #[.int .i64 u, .int .i64 16] w fun e w' => e = .returned (.string ⟨(hexL 8 u).toArray⟩) ∧ Below w.heap.size w w' := by
  have c1 := fmt16_calls u (by omega) w hT
  have hw : IntKind.u64.wrap (u : Int) = (u : Int) := by rw [IntKind.wrap_u64]; omega
  have hn : ¬ ((u : Int) < 0) := by omega
  have h0 : decide ((u : Int) < 0) = false := by simp
  clear hn
  go_enter Tryd.func79, Tryd.ntmps79
  go_wp2_with (go_at_call 92; refine c1.mono ?_; rintro e w' ⟨rfl, hw'⟩)
  go_ret
  exact ⟨rfl, hw'⟩
set_option maxRecDepth 100000 in
theorem fmtint_calls (u : Nat) (hu : u < 2147483648) (w : World) (hT : WT w) :
    Calls Tryd.prog 56 #[.int .i64 u, .int .i64 16] w fun e w' => e = .returned (.string ⟨(hexL 8 u).toArray⟩) ∧ Below w.heap.size w w' := by
  have c1 := fmtint0_calls u hu w hT
  go_enter Tryd.func56, Tryd.ntmps56
  go_wp2_with (go_at_call 79; refine c1.mono ?_; rintro e w' ⟨rfl, hw'⟩)
  go_ret
  exact ⟨rfl, hw'⟩
end Go.Proofs.YtpnlbmeeihbjaabDoor.P
end
