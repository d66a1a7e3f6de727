/- Own words beside the print's: runes to a string. -/
import Derived.Laws.Cover4
import Derived.Lib.AppendIntMem
import Derived.Test.YthaaajpmiofodaaDoorS
import Derived.Laws.Slices
import Derived.Test.YthaaajpmiofodaaDoorWWords
import Derived.Test.YthaaajpmiofodaaDoorWLast
import Derived.Test.YthaaajpmiofodaaDoorWMore
namespace Go.Proofs.YthaaajpmiofodaaDoorW.PrintWords
open Go.RowKit
theorem Kd.C_runes {P : Program} {w : World} {src dst e : TypeId} {A : Option Addr} {n c : Nat} {xs : List Int} (hs : P.underlying src = some (.slice e)) (he : P.underlying e = some (.int .i32)) (hd : P.underlying dst = some .string)
    (h : (Kd.int .i32).C w A n xs) : (convert src dst (.slice A n c)).run P w = .ok (.string (runesBytes xs)) w := by
  have hr : ReadsInt w .i32 A n xs := Kd.reads_of_C (enc := Value.int .i32) (d := (0 : Int)) (h1 := fun _ => rfl) h
  obtain ⟨hl, hm, hc⟩ := hr
  rcases Nat.eq_zero_or_pos n with h0 | h0
  · obtain rfl : xs = [] := List.eq_nil_of_length_eq_zero (by omega)
    subst h0
    rcases A with _ | ad
    · exact run_convert_runes_nil w src dst e 0 c hs he hd
    · have := run_convert_runes (P := P) w src dst e ad 0 c [] (Nat.le_refl _) hs he hd (fun j hj => absurd hj (by simp))
      simpa using this
  · obtain ⟨ad, rfl, hcc⟩ := hc h0
    have := run_convert_runes (P := P) w src dst e ad n c xs (by omega) hs he hd (fun j hj => hcc j (by omega))
    rwa [List.take_of_length_le (by omega)] at this
theorem own_runes {P : Program} {w : World} {base n : Nat} {e' src dst e : TypeId} {v : Value} {xs : List Int} (hs : P.underlying src = some (.slice e)) (he : P.underlying e = some (.int .i32)) (hd : P.underlying dst = some .string)
    (h : w.ownsRow base e' 1 v n (nums .i32 xs)) : (convert src dst v).run P w = .ok (.string (runesBytes xs)) w := by
  obtain ⟨A, c, rfl, hr⟩ := own_reads h
  exact Kd.C_runes hs he hd (Kd.C_of_reads (d := (0 : Int)) (h1 := fun _ => rfl) hr)
theorem cut_to3 {P : Program} (t e : TypeId) (kh : IntKind) {i : TypeInfo} (ht : P.underlying t = some (.slice e)) (hi : P.info? e = some i) (A : Option Addr) (n c : Nat) (j : Int) (h0 : 0 ≤ j) (hm : j ≤ n) (hc : n ≤ c) :
    ∀ W : World, (Instr.slice t (.slice A n c) none (some (.int kh j)) (some (.int kh j))).run P W = .ok (.slice A j.toNat j.toNat) W := by
  intro W
  have hel : P.elem t = e := by simp [Program.elem, ht]
  have hu : P.underlying t = some (.slice (P.elem t)) := by rw [hel]; exact ht
  have ha : (A.map fun x => x.add 0) = A := by cases A <;> simp [Addr.add]
  have h1 : j ≤ (j.toNat : Int) := by omega
  have h2 : j ≤ (c : Int) := by omega
  have hb := run_sliceBound (P := P) (w := W) kh j j.toNat BoundsCode.slice3B h0 h1
  simp [Instr.slice, run_underlying hu, Instr.sliceBounds, run_sliceBound, h0, h2, hel, sizeOf, typeInfo, hi, Result.andThen, ha]
  rw [hb]
/-- The table that strconv's numerals are read from, as the program's text lays it. -/
def WT (w : World) : Prop := Lib.TabIs Tryd.prog w Tryd.tabName .u64 Lib.pow10Tab
theorem WT.below {w w1 : World} (h : WT w) (hb : Below w.heap.size w w1) : WT w1 := Lib.tabBelow_of_tabIs h w1 hb
end Go.Proofs.YthaaajpmiofodaaDoorW.PrintWords
