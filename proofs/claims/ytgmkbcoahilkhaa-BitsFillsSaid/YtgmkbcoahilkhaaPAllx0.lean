/- A law of layer 4 (bits) and what it reaches: each call answers what its plain function tells; the law answers true for every input, without conditions. Written by this session over the kit print; what that does not tell is given by hand. -/
import Derived.Test.YtgmkbcoahilkhaaProg
import Derived.Below
import Derived.Deep.Draws
import Derived.Deep.AppendLies
import Derived.Maps.AppendAt
import Derived.OwnWalk
import Derived.Laws.BytesArg
import Derived.Laws.MakeOwn
import Derived.Laws.OwnMore
import Derived.Deep.OwnRows
import Derived.Tactics
import Derived.Lib.ConvBytes
import Derived.Laws.Slices
import Derived.WalkKit
import Derived.KernelRfl
import Derived.RowKit3
import Derived.Deep.LoopGhost
import Derived.Deep.QuietTactic
import Derived.BigQuiet
import Derived.WideLaws
import Derived.Deep.DeepCutAuto
import Derived.Deep.CutBlock
import Derived.Deep.RegionHeld3
import Derived.Laws.Rows
import Derived.Lib.AppendStr
import Derived.ArgAppend
import Derived.Laws.IdiomCopy
import Derived.OrdersHeld
import Derived.Laws.BitsLemmas
import Derived.RowKit
import Derived.Test.YtgmkbcoahilkhaaGiven
import Derived.Test.YtgmkbcoahilkhaaWWords
import Derived.Test.YtgmkbcoahilkhaaWLast
import Derived.Test.YtgmkbcoahilkhaaWTab
import Derived.Test.YtgmkbcoahilkhaaWFour
import Derived.Test.YtgmkbcoahilkhaaWQPut
import Derived.Test.YtgmkbcoahilkhaaWApart
import Derived.Test.YtgmkbcoahilkhaaWArr
import Derived.Test.YtgmkbcoahilkhaaWZeros
import Derived.Test.YtgmkbcoahilkhaaWFoot
import Derived.Test.YtgmkbcoahilkhaaWKept
import Derived.Test.YtgmkbcoahilkhaaWShare
import Derived.Test.YtgmkbcoahilkhaaWN
import Derived.Test.YtgmkbcoahilkhaaWFootNe
import Derived.Test.YtgmkbcoahilkhaaWAt
import Derived.Test.YtgmkbcoahilkhaaWEqStruct
import Derived.Test.YtgmkbcoahilkhaaWRepsOne
import Derived.Test.YtgmkbcoahilkhaaWInv
import Derived.Test.YtgmkbcoahilkhaaWInvWords
import Derived.Test.YtgmkbcoahilkhaaWGuard
import Derived.Test.YtgmkbcoahilkhaaWNEv
import Derived.Test.YtgmkbcoahilkhaaWMore
namespace Go.Proofs.Ytgmkbcoahilkhaa.PAll
open Go.RowKit Go.Proofs.YtgmkbcoahilkhaaW.PrintWords Go.Proofs.YtgmkbcoahilkhaaW.PrintLast Go.Proofs.YtgmkbcoahilkhaaW.PrintMore
attribute [local go_sem] max2_int min2_int max_two min_two max_three min_three max_four min_four   -- for this text's walks alone
set_option linter.unusedVariables false
set_option linter.unusedSimpArgs false



def errW : Option Int → Value
  | none => .nilIface
  | some c => .iface 0 (.int .i64 c)
theorem errW_none : errW none = .nilIface := rfl
theorem errW_some (c : Int) : errW (some c) = .iface 0 (.int .i64 c) := rfl

theorem info3 : (Try.prog.info? 3).map (fun i => (i.zero, i.size, i.bytes)) = some (some (.int .i64 0), 1, 8) := by kernel_rfl
theorem info5 : (Try.prog.info? 5).map (fun i => (i.zero, i.size, i.bytes)) = some (some (.int .u8 0), 1, 1) := by kernel_rfl
-- the values' own types

end Go.Proofs.Ytgmkbcoahilkhaa.PAll
