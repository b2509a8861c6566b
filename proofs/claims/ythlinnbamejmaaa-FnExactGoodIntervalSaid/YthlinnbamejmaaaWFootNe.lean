-- What this claim needs of the print's words, left by a program of this session (wip/prune.py).
import Derived.Test.YthlinnbamejmaaaWN
namespace Go.Proofs.YthlinnbamejmaaaW.PrintWords
open Go.RowKit
namespace Kd
section
variable {α : Type} {d : Kd α} {W : World} {g n : Nat} {S ok : Nat → Prop} {A : Option Addr} {ad : Addr} {xs : List α}
end
end Kd
end Go.Proofs.YthlinnbamejmaaaW.PrintWords

