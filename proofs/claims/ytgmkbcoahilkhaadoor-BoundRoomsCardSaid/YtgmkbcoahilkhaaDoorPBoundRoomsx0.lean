/- A law of layer 32 (bound) and the plain functions that it reaches: each call answers what its plain function tells. Over the kit's print; Uses and awake are given by hand. -/
import Derived.Test.YtgmkbcoahilkhaaDoorProg
import Derived.Below
import Derived.Deep.Draws
import Derived.Deep.AppendLies
import Derived.Maps.AppendAt
import Derived.OwnWalk
import Derived.Laws.BytesArg
import Derived.Laws.MakeOwn
import Derived.Laws.OwnMore
import Derived.Deep.OwnRows
import Derived.Tactics
import Derived.Lib.ConvBytes
import Derived.Laws.Slices
import Derived.WalkKit
import Derived.KernelRfl
import Derived.RowKit3
import Derived.Deep.LoopGhost
import Derived.Deep.QuietTactic
import Derived.BigQuiet
import Derived.WideLaws
import Derived.Deep.DeepCutAuto
import Derived.Deep.CutBlock
import Derived.Deep.RegionHeld3
import Derived.Laws.Rows
import Derived.Lib.AppendStr
import Derived.ArgAppend
import Derived.Laws.IdiomCopy
import Derived.OrdersHeld
import Derived.Laws.BitsLemmas
import Derived.RowKit
import Derived.Test.YtgmkbcoahilkhaaDoorGiven
import Derived.Test.YtgmkbcoahilkhaaDoorWWords
import Derived.Test.YtgmkbcoahilkhaaDoorWLast
import Derived.Test.YtgmkbcoahilkhaaDoorWTab
import Derived.Test.YtgmkbcoahilkhaaDoorWFour
import Derived.Test.YtgmkbcoahilkhaaDoorWQPut
import Derived.Test.YtgmkbcoahilkhaaDoorWApart
import Derived.Test.YtgmkbcoahilkhaaDoorWArr
import Derived.Test.YtgmkbcoahilkhaaDoorWZeros
import Derived.Test.YtgmkbcoahilkhaaDoorWFoot
import Derived.Test.YtgmkbcoahilkhaaDoorWKept
import Derived.Test.YtgmkbcoahilkhaaDoorWShare
import Derived.Test.YtgmkbcoahilkhaaDoorWN
import Derived.Test.YtgmkbcoahilkhaaDoorWFootNe
import Derived.Test.YtgmkbcoahilkhaaDoorWAt
import Derived.Test.YtgmkbcoahilkhaaDoorWEqStruct
import Derived.Test.YtgmkbcoahilkhaaDoorWRepsOne
import Derived.Test.YtgmkbcoahilkhaaDoorWInv
import Derived.Test.YtgmkbcoahilkhaaDoorWInvWords
import Derived.Test.YtgmkbcoahilkhaaDoorWGuard
import Derived.Test.YtgmkbcoahilkhaaDoorWNEv
import Derived.Test.YtgmkbcoahilkhaaDoorWMore
namespace Go.Proofs.YtgmkbcoahilkhaaDoor.PBoundRooms
open Go.RowKit Go.Proofs.YtgmkbcoahilkhaaDoorW.PrintWords Go.Proofs.YtgmkbcoahilkhaaDoorW.PrintLast Go.Proofs.YtgmkbcoahilkhaaDoorW.PrintMore
attribute [local go_sem] max2_int min2_int max_two min_two max_three min_three max_four min_four   -- for this text's walks alone
set_option linter.unusedVariables false
set_option linter.unusedSimpArgs false



def errW : Option Int → Value
  | none => .nilIface
  | some c => .iface 0 (.int .i64 c)
theorem errW_none : errW none = .nilIface := rfl
theorem errW_some (c : Int) : errW (some c) = .iface 0 (.int .i64 c) := rfl

-- the values' own types

end Go.Proofs.YtgmkbcoahilkhaaDoor.PBoundRooms
