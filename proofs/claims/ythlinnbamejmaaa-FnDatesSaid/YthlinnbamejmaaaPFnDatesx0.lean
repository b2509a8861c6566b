-- Made by a program of this session (wip/myprint.py) out of Lean's print of the loaded functions. Not trusted: Lean checks it.
import Derived.Test.YthlinnbamejmaaaProg
import Derived.Below
import Derived.Deep.Draws
import Derived.Deep.AppendLies
import Derived.Maps.AppendAt
import Derived.OwnWalk
import Derived.Laws.BytesArg
import Derived.Laws.MakeOwn
import Derived.Laws.OwnMore
import Derived.Deep.OwnRows
import Derived.Tactics
import Derived.Lib.ConvBytes
import Derived.Laws.Slices
import Derived.WalkKit
import Derived.KernelRfl
import Derived.RowKit3
import Derived.Deep.LoopGhost
import Derived.Deep.QuietTactic
import Derived.BigQuiet
import Derived.WideLaws
import Derived.Deep.DeepCutAuto
import Derived.Deep.CutBlock
import Derived.Deep.RegionHeld3
import Derived.Laws.Rows
import Derived.Lib.AppendStr
import Derived.ArgAppend
import Derived.Laws.IdiomCopy
import Derived.OrdersHeld
import Derived.Laws.BitsLemmas
import Derived.RowKit
import Derived.Shelf.Abstract
import Derived.Test.YthlinnbamejmaaaWWords
import Derived.Test.YthlinnbamejmaaaWLast
import Derived.Test.YthlinnbamejmaaaWTab
import Derived.Test.YthlinnbamejmaaaWFour
import Derived.Test.YthlinnbamejmaaaWQPut
import Derived.Test.YthlinnbamejmaaaWApart
import Derived.Test.YthlinnbamejmaaaWArr
import Derived.Test.YthlinnbamejmaaaWZeros
import Derived.Test.YthlinnbamejmaaaWFoot
import Derived.Test.YthlinnbamejmaaaWKept
import Derived.Test.YthlinnbamejmaaaWShare
import Derived.Test.YthlinnbamejmaaaWN
import Derived.Test.YthlinnbamejmaaaWFootNe
import Derived.Test.YthlinnbamejmaaaWAt
import Derived.Test.YthlinnbamejmaaaWEqStruct
import Derived.Test.YthlinnbamejmaaaWRepsOne
import Derived.Test.YthlinnbamejmaaaWInv
import Derived.Test.YthlinnbamejmaaaWInvWords
import Derived.Test.YthlinnbamejmaaaWGuard
import Derived.Test.YthlinnbamejmaaaWNEv
import Derived.Test.YthlinnbamejmaaaWMore
namespace Go.Proofs.Ythlinnbamejmaaa.PFnDates
open Go.RowKit Go.Proofs.YthlinnbamejmaaaW.PrintWords Go.Proofs.YthlinnbamejmaaaW.PrintLast Go.Proofs.YthlinnbamejmaaaW.PrintMore
attribute [local go_sem] max2_int min2_int max_two min_two max_three min_three max_four min_four   -- for this text's walks alone
set_option linter.unusedVariables false
set_option linter.unusedSimpArgs false



def errW : Option Int → Value
  | none => .nilIface
  | some c => .iface 0 (.int .i64 c)
theorem errW_none : errW none = .nilIface := rfl
theorem errW_some (c : Int) : errW (some c) = .iface 0 (.int .i64 c) := rfl

theorem info3 : (Try.prog.info? 3).map (fun i => (i.zero, i.size, i.bytes)) = some (some (.int .i64 0), 1, 8) := by kernel_rfl
-- the values' own types

end Go.Proofs.Ythlinnbamejmaaa.PFnDates
