-- What this claim needs of the print's words, left by a program of this session (wip/prune.py).
import Derived.Test.YthlinnbamejmaaaWTab
namespace Go.Proofs.YthlinnbamejmaaaW.PrintLast
section
variable {P : Program} {ops : Array Oper} {Q : Exit → Act → World → Prop} {md : Region.Mode} {T : Bool × List (List Nat × List Nat)} {B : List Nat} {O : List Nat} {b : Nat → Bool} {i j n : Nat}
end
end Go.Proofs.YthlinnbamejmaaaW.PrintLast

