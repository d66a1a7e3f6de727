/- The law NthParses (layer 4): the row and its tied card: for every input the law returns true, and the argument reads behind the call as it read before. No condition of ours. -/
import Derived.Test.YtmfnnhmlekdbjaaDoorZNP3
import Derived.Test.YtmfnnhmlekdbjaaDoorZNP7
import Derived.Lib.IndexLaws
section
set_option linter.unusedVariables false
set_option linter.unusedSimpArgs false
namespace Go.Proofs.YtmfnnhmlekdbjaaDoor.P
open Go.RowKit Go.Proofs.YtmfnnhmlekdbjaaDoorW.PrintWords Go.Proofs.YtmfnnhmlekdbjaaDoorW.PrintLast Go.Proofs.YtmfnnhmlekdbjaaDoorW.PrintMore
open Go.Lib
attribute [local go_sem] max2_int min2_int max_two min_two max_three min_three max_four min_four
set_option linter.unusedVariables false
set_option linter.unusedSimpArgs false
def cutN (s : ByteArray) : ByteArray × ByteArray × Bool :=
  if 0 ≤ Lib.indexByte s.data.toList 110 then (s.extract 0 (Lib.indexByte s.data.toList 110).toNat, s.extract ((Lib.indexByte s.data.toList 110).toNat + 1) s.size, true) else (s, ⟨#[]⟩, false)
set_option maxHeartbeats 4000000 in
set_option maxRecDepth 100000 in
theorem lcut_calls (s : ByteArray) (w : World) (hs : s.size ≤ 140737488351232) :
    Calls Tryd.prog 33 #[.string s, .string ⟨#[110]⟩] w fun e w' => e = .returned (.tuple #[.string (cutN s).1, .string (cutN s).2.1, .bool (cutN s).2.2]) ∧ Below w.heap.size w w' := by
  have hge := Lib.indexByte_ge s.data.toList 110
  have HIX := Aside0.mk (fun W => Tryd.stringslite_Index_one s 110 W)
  have hsz : s.size = s.data.toList.length := Lib.size_eq s
  unfold cutN
  by_cases c : 0 ≤ Lib.indexByte s.data.toList 110
  · rw [if_pos c]
    obtain ⟨i, hi⟩ := Int.eq_ofNat_of_zero_le c
    have hlt : i < s.size := by
      have h1 := (Lib.indexByte_some hi).1
      have := (List.getElem?_eq_some_iff.1 h1).1
      omega
    rw [hi] at HIX ⊢
    rw [Int.toNat_natCast]
    clear hi hge c hsz
    have c0 : decide (0 ≤ (i : Int)) = true := decide_eq_true (by omega)
    have c1 : (0 : Int) ≤ ↑i := by omega
    have c2 : (↑i : Int) ≤ ↑s.size := by omega
    have c3 : (0 : Int) ≤ ↑i + 1 := by omega
    have c4 : (↑i + 1 : Int) ≤ ↑s.size := by omega
    have c5 : IntKind.i64.wrap ((i : Int) + 1) = (i : Int) + 1 := by rw [IntKind.wrap_i64]; omega
    have c6 : ((i : Int) + 1).toNat = i + 1 := by omega
    have c7 : wrap64 ((i : Int) + 1) = (i : Int) + 1 := by unfold wrap64; omega
    go_enter Tryd.func33, Tryd.ntmps33
    go_wp2_with (go_at_call 47; refine (HIX.out _).mono ?_; rintro e w' ⟨rfl, rfl⟩)
    go_region_o
    go_wp2
    go_ret3
    exact ⟨rfl, below_drew1 (Below.refl _ _)⟩
  · have h1 : Lib.indexByte s.data.toList 110 = -1 := by omega
    rw [if_neg c]
    rw [h1] at HIX
    clear hge c hsz h1
    go_enter Tryd.func33, Tryd.ntmps33
    go_wp2_with (go_at_call 47; refine (HIX.out _).mono ?_; rintro e w' ⟨rfl, rfl⟩)
    go_ret3
    exact ⟨rfl, Below.refl _ _⟩
set_option maxHeartbeats 4000000 in
theorem cut_calls (s : ByteArray) (w : World) (hs : s.size ≤ 140737488351232) :
    Calls Tryd.prog 20 #[.string s, .string ⟨#[110]⟩] w fun e w' => e = .returned (.tuple #[.string (cutN s).1, .string (cutN s).2.1, .bool (cutN s).2.2]) ∧ Below w.heap.size w w' := by
  have HC := Aside0.mk (fun W => lcut_calls s W hs)
  generalize (cutN s).1 = r1 at HC ⊢
  generalize (cutN s).2.1 = r2 at HC ⊢
  generalize (cutN s).2.2 = r3 at HC ⊢
  go_enter Tryd.func20, Tryd.ntmps20
  go_wp2_with (go_at_call 33; refine (HC.out _).mono ?_; rintro e w1 ⟨rfl, hb⟩; have HB1 := Aside0.mk hb; clear hb)
  go_ret3
  exact ⟨rfl, HB1.out⟩
def strings_Cut.f (a0 a1 : ByteArray) : Option (ByteArray × ByteArray × Bool) := if a1 = ⟨#[110]⟩ ∧ a0.size ≤ 140737488351232 then some (cutN a0) else none
theorem strings_Cut.calls (a0 a1 : ByteArray) (r1 r2 : ByteArray) (r3 : Bool) (w : World) (h : strings_Cut.f a0 a1 = some (r1, r2, r3)) :
    Calls Tryd.prog 20 #[.string a0, .string a1] w fun e w' => e = .returned (.tuple #[.string r1, .string r2, .bool r3]) ∧ Below w.heap.size w w' := by
  unfold strings_Cut.f at h
  split at h
  · rename_i e
    obtain ⟨e, hs⟩ := e
    subst e
    have h2 := Option.some.inj h
    have := cut_calls a0 w hs
    rw [h2] at this
    exact this
  · cases h
end Go.Proofs.YtmfnnhmlekdbjaaDoor.P
end
