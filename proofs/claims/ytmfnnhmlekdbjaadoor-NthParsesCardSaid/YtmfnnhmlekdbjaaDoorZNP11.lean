/- The law NthParses (layer 4): the row and its tied card: for every input the law returns true, and the argument reads behind the call as it read before. No condition of ours. -/
import Derived.Test.YtmfnnhmlekdbjaaDoorZNP3
import Derived.Test.YtmfnnhmlekdbjaaDoorZNP7
section
set_option linter.unusedVariables false
set_option linter.unusedSimpArgs false
namespace Go.Proofs.YtmfnnhmlekdbjaaDoor.P
open Go.RowKit Go.Proofs.YtmfnnhmlekdbjaaDoorW.PrintWords Go.Proofs.YtmfnnhmlekdbjaaDoorW.PrintLast Go.Proofs.YtmfnnhmlekdbjaaDoorW.PrintMore
open Go.Lib
attribute [local go_sem] max2_int min2_int max_two min_two max_three min_three max_four min_four
set_option linter.unusedVariables false
set_option linter.unusedSimpArgs false
def strings_TrimPrefix.f (a0 a1 : ByteArray) : Option ByteArray := some ⟨(Lib.trimPrefix a0.data.toList a1.data.toList).toArray⟩
theorem strings_TrimPrefix.calls (a0 a1 : ByteArray) (r : ByteArray) (w : World) (h : strings_TrimPrefix.f a0 a1 = some r) :
    Calls Tryd.prog 36 #[.string a0, .string a1] w fun e w' => e = .returned (.string r) ∧ Below w.heap.size w w' := by
  obtain rfl := Option.some.inj h
  have hc := Any.strings_TrimPrefix Tryd.lays101 a0 a1 w
  change Calls Tryd.prog 36 _ _ _ at hc
  exact hc.mono (by rintro e w' ⟨rfl, rfl⟩; exact ⟨rfl, Below.refl _ _⟩)
end Go.Proofs.YtmfnnhmlekdbjaaDoor.P
end
