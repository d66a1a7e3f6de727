/- strconv.Itoa, as the shelf tells it. -/
import Derived.Test.YthaaajpmiofodaaDoorK
import Derived.Test.YthaaajpmiofodaaDoorS
namespace Go.Proofs.YthaaajpmiofodaaDoor.P
open Go.RowKit Go.Proofs.YthaaajpmiofodaaDoorW.PrintWords Go.Proofs.YthaaajpmiofodaaDoorW.PrintLast Go.Proofs.YthaaajpmiofodaaDoorW.PrintMore
def strconv_Itoa_17.f (a0 : Int) : Option ByteArray := if -9223372036854775808 ≤ a0 ∧ a0 ≤ 9223372036854775807 then some ⟨(Lib.itoa a0).toArray⟩ else none
theorem strconv_Itoa_17.calls (a0 : Int) (r : ByteArray) (w : World) (hT : WT w) (h : strconv_Itoa_17.f a0 = some r) :
    Calls Tryd.prog 17 #[.int .i64 a0] w fun e w' => e = .returned (.string r) ∧ Below w.heap.size w w' := by
  unfold strconv_Itoa_17.f at h
  split at h
  · rename_i hh
    obtain rfl := Option.some.inj h
    refine (Tryd.strconv_Itoa a0 hh.1 hh.2 w hT).mono ?_
    rintro e w' ⟨he, k, os, rfl⟩
    exact ⟨he, Lib.below_grow _ _ (Nat.le_refl _) k os⟩
  · cases h
end Go.Proofs.YthaaajpmiofodaaDoor.P
