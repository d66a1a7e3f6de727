-- Written by pr.py of this session over the kit's printer.
import Derived.Test.YthaaajpmiofodaaDoorProg
import Derived.Below
import Derived.Deep.Draws
import Derived.Deep.AppendLies
import Derived.Maps.AppendAt
import Derived.OwnWalk
import Derived.Laws.BytesArg
import Derived.Laws.MakeOwn
import Derived.Laws.OwnMore
import Derived.Deep.OwnRows
import Derived.Tactics
import Derived.Lib.ConvBytes
import Derived.Laws.Slices
import Derived.WalkKit
import Derived.KernelRfl
import Derived.RowKit3
import Derived.Deep.LoopGhost
import Derived.Deep.QuietTactic
import Derived.BigQuiet
import Derived.WideLaws
import Derived.Deep.DeepCutAuto
import Derived.Deep.CutBlock
import Derived.Deep.RegionHeld3
import Derived.Laws.Rows
import Derived.Lib.AppendStr
import Derived.ArgAppend
import Derived.Laws.IdiomCopy
import Derived.OrdersHeld
import Derived.Laws.BitsLemmas
import Derived.RowKit
import Derived.Test.YthaaajpmiofodaaDoorWWords
import Derived.Test.YthaaajpmiofodaaDoorWLast
import Derived.Test.YthaaajpmiofodaaDoorWTab
import Derived.Test.YthaaajpmiofodaaDoorWFour
import Derived.Test.YthaaajpmiofodaaDoorWQPut
import Derived.Test.YthaaajpmiofodaaDoorWApart
import Derived.Test.YthaaajpmiofodaaDoorWArr
import Derived.Test.YthaaajpmiofodaaDoorWZeros
import Derived.Test.YthaaajpmiofodaaDoorWFoot
import Derived.Test.YthaaajpmiofodaaDoorWKept
import Derived.Test.YthaaajpmiofodaaDoorWShare
import Derived.Test.YthaaajpmiofodaaDoorWN
import Derived.Test.YthaaajpmiofodaaDoorWFootNe
import Derived.Test.YthaaajpmiofodaaDoorWAt
import Derived.Test.YthaaajpmiofodaaDoorWEqStruct
import Derived.Test.YthaaajpmiofodaaDoorWRepsOne
import Derived.Test.YthaaajpmiofodaaDoorWInv
import Derived.Test.YthaaajpmiofodaaDoorWInvWords
import Derived.Test.YthaaajpmiofodaaDoorWGuard
import Derived.Test.YthaaajpmiofodaaDoorWNEv
import Derived.Test.YthaaajpmiofodaaDoorWMore
import Derived.Test.YthaaajpmiofodaaDoorX
namespace Go.Proofs.YthaaajpmiofodaaDoor.P
open Go.RowKit Go.Proofs.YthaaajpmiofodaaDoorW.PrintWords Go.Proofs.YthaaajpmiofodaaDoorW.PrintLast Go.Proofs.YthaaajpmiofodaaDoorW.PrintMore
attribute [local go_sem] max2_int min2_int max_two min_two max_three min_three max_four min_four   -- for this text's walks alone
set_option linter.unusedVariables false
set_option linter.unusedSimpArgs false



def errW : Option Int → Value
  | none => .nilIface
  | some c => .iface 0 (.int .i64 c)
theorem errW_none : errW none = .nilIface := rfl
theorem errW_some (c : Int) : errW (some c) = .iface 0 (.int .i64 c) := rfl

-- the values' own types

end Go.Proofs.YthaaajpmiofodaaDoor.P
