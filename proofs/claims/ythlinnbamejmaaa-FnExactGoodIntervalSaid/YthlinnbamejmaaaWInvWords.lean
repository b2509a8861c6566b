-- What this claim needs of the print's words, left by a program of this session (wip/prune.py).
import Derived.Test.YthlinnbamejmaaaWInv
import Derived.Test.YthlinnbamejmaaaWFootNe
namespace Go.Proofs.YthlinnbamejmaaaW.PrintWords
open Go.RowKit
end Go.Proofs.YthlinnbamejmaaaW.PrintWords
namespace Go.Proofs.YthlinnbamejmaaaW.PrintLast
section
variable {ops : Array Oper} {a : Act} {o og : Oper} {g : Nat} {t : Tmp} {u : Bool}
end
end Go.Proofs.YthlinnbamejmaaaW.PrintLast

