-- What this claim needs of the print's words, left by a program of this session (wip/prune.py).
import Derived.Test.YthlinnbamejmaaaWWords
import Derived.Laws.StructEq
namespace Go.Proofs.YthlinnbamejmaaaW.PrintWords
open Go.RowKit
section
variable {P : Program} {d : Nat} {xs ys : Array Value} {f : Field} {fs : List Field} {a b : Value} {r s : Bool} {w : World}
end
end Go.Proofs.YthlinnbamejmaaaW.PrintWords

