-- What this claim needs of the print's words, left by a program of this session (wip/prune.py).
import Derived.Test.YthlinnbamejmaaaWTab
namespace Go.Proofs.YthlinnbamejmaaaW.PrintLast
section
variable {P : Program} {ops : Array Oper} {Q : Exit → Act → World → Prop} {md : Region.Mode} {S : World → Prop} {ds : List Nat} {T : Bool × List (List Nat × List Nat)}
end
end Go.Proofs.YthlinnbamejmaaaW.PrintLast

