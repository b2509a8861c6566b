-- Made by a program of this session (wip/myprint.py) out of Lean's print of the loaded functions. Not trusted: Lean checks it.
import Derived.Test.YtcfcnnamjfgahaaProg
import Derived.Below
import Derived.Deep.Draws
import Derived.Deep.AppendLies
import Derived.Maps.AppendAt
import Derived.OwnWalk
import Derived.Laws.BytesArg
import Derived.Laws.MakeOwn
import Derived.Laws.OwnMore
import Derived.Deep.OwnRows
import Derived.Tactics
import Derived.Lib.ConvBytes
import Derived.Laws.Slices
import Derived.WalkKit
import Derived.KernelRfl
import Derived.RowKit3
import Derived.Deep.LoopGhost
import Derived.Deep.QuietTactic
import Derived.BigQuiet
import Derived.WideLaws
import Derived.Deep.DeepCutAuto
import Derived.Deep.CutBlock
import Derived.Deep.RegionHeld3
import Derived.Laws.Rows
import Derived.Lib.AppendStr
import Derived.ArgAppend
import Derived.Laws.IdiomCopy
import Derived.OrdersHeld
import Derived.Laws.BitsLemmas
import Derived.RowKit
import Derived.Shelf.Abstract
import Derived.Shelf.Lays2
import Derived.Shelf.Slices.Clone
import Derived.Shelf.Lays
import Derived.Shelf.Sort.Plain
import Derived.Shelf.Slices.In.SortNone
import Derived.Sort.OwnSortedInts
import Derived.Test.YtcfcnnamjfgahaaWWords
import Derived.Test.YtcfcnnamjfgahaaWLast
import Derived.Test.YtcfcnnamjfgahaaWTab
import Derived.Test.YtcfcnnamjfgahaaWFour
import Derived.Test.YtcfcnnamjfgahaaWQPut
import Derived.Test.YtcfcnnamjfgahaaWApart
import Derived.Test.YtcfcnnamjfgahaaWArr
import Derived.Test.YtcfcnnamjfgahaaWZeros
import Derived.Test.YtcfcnnamjfgahaaWFoot
import Derived.Test.YtcfcnnamjfgahaaWKept
import Derived.Test.YtcfcnnamjfgahaaWShare
import Derived.Test.YtcfcnnamjfgahaaWN
import Derived.Test.YtcfcnnamjfgahaaWFootNe
import Derived.Test.YtcfcnnamjfgahaaWAt
import Derived.Test.YtcfcnnamjfgahaaWEqStruct
import Derived.Test.YtcfcnnamjfgahaaWRepsOne
import Derived.Test.YtcfcnnamjfgahaaWInv
import Derived.Test.YtcfcnnamjfgahaaWInvWords
import Derived.Test.YtcfcnnamjfgahaaWGuard
import Derived.Test.YtcfcnnamjfgahaaWNEv
import Derived.Test.YtcfcnnamjfgahaaWMore
namespace Go.Proofs.Ytcfcnnamjfgahaa.PFnQuantiles
open Go.RowKit Go.Proofs.YtcfcnnamjfgahaaW.PrintWords Go.Proofs.YtcfcnnamjfgahaaW.PrintLast Go.Proofs.YtcfcnnamjfgahaaW.PrintMore
attribute [local go_sem] max2_int min2_int max_two min_two max_three min_three max_four min_four   -- for this text's walks alone
set_option linter.unusedVariables false
set_option linter.unusedSimpArgs false



def errW : Option Int → Value
  | none => .nilIface
  | some c => .iface 0 (.int .i64 c)
theorem errW_none : errW none = .nilIface := rfl
theorem errW_some (c : Int) : errW (some c) = .iface 0 (.int .i64 c) := rfl

theorem info3 : (Try.prog.info? 3).map (fun i => (i.zero, i.size, i.bytes)) = some (some (.int .i64 0), 1, 8) := by kernel_rfl
-- the values' own types

end Go.Proofs.Ytcfcnnamjfgahaa.PFnQuantiles
