/-
  No cell of these rows narrows 'for every input' (looked for: loops, veiled, ifaces, maps, wideKeys, modest, calm, conditions, laid).
  DERIVED. THE GIVEN ROWS OF THIS SEAT. 4 by the template 'for every input the law returns true; each argument reads behind the call as it read before'; 0 by the template 'total and deterministic' (their statements: YthlinnbamejmaabTotals.lean).
  GIVEN WITH THE SEED: the statements are not yours to turn. If you find one false, say at which input.
  Laid BY PROGRAM, IN A SANDBOX (cutbox-rows.mjs): the forced cells as the released guide's own fill.sh prints them over the translation 9470088f9d5c1e9f… (all of the seat's roots in one cut). By AI agents, Wed Nov 11 2026. No macro, syntax, notation, axiom, sorry.
-/
import Derived.Test.YthlinnbamejmaabChecked
import GoSem.Claim
import GoSem.ClaimJoined
import GoSem.ClaimMapViews
import Derived.JoinedTies
import Derived.KernelRfl
namespace Go.Proofs.Ythlinnbamejmaab
/- THE CELL 'sum', in the pinned program and in every row, IS THE sha256 OF THE DUMP (.gsa) THAT YthlinnbamejmaabProg.lean LOADS. Nothing in Lean hashes anything: it is a label: what it is worth is what the hold of that sum in a sandbox is worth. -/
noncomputable def Try.pinned : Pinned := { name := "ythlinnbamejmaab", sum := "9470088f9d5c1e9fcb8dbdf78a2409cf1e805421c65240577e2a6e9fdfb8543b", checked := Try.checked }
namespace Rows
def none {H : Type} : Left H := { results := [], args := [] }

/-- 'laws.FnExactGoodSilences': WHATEVER THE INPUT: true; the input reads as it did. -/
def fnExactGoodSilencesSpec : ChangeSpec := { name := "fnExactGoodSilences", fn := fun _ => fun
  | [d] => { results := [.lit (.bool true)], args := [d] }
  | _ => none }
def fnExactGoodSilencesRow : OpenClaim := { program := "ythlinnbamejmaab", sum := "9470088f9d5c1e9fcb8dbdf78a2409cf1e805421c65240577e2a6e9fdfb8543b", func := "loop.example/g00039/laws.FnExactGoodSilences", spec := "fnExactGoodSilences", inPlace := ["internal/bytealg.IndexByteString"], unfollowed := true, recurses := true, apart := false }
def FnExactGoodSilencesSaid : Prop := fnExactGoodSilencesRow.holds Try.pinned (OpenSpec.ofChange fnExactGoodSilencesSpec)

/-- ITS FALSE NEIGHBOUR: 'it returns false'. Refute it at one input. -/
def fnExactGoodSilencesWrong : ChangeSpec := { name := "fnExactGoodSilences", fn := fun _ => fun
  | [d] => { results := [.lit (.bool false)], args := [d] }
  | _ => none }
def FnExactGoodSilencesWrongFalsely : Prop := fnExactGoodSilencesRow.holds Try.pinned (OpenSpec.ofChange fnExactGoodSilencesWrong)

/-- 'laws.FnIntervals': WHATEVER THE INPUT: true; the input reads as it did. -/
def fnIntervalsSpec : ChangeSpec := { name := "fnIntervals", fn := fun _ => fun
  | [d] => { results := [.lit (.bool true)], args := [d] }
  | _ => none }
def fnIntervalsRow : OpenClaim := { program := "ythlinnbamejmaab", sum := "9470088f9d5c1e9fcb8dbdf78a2409cf1e805421c65240577e2a6e9fdfb8543b", func := "loop.example/g00039/laws.FnIntervals", spec := "fnIntervals", unfollowed := true, recurses := true, apart := false }
def FnIntervalsSaid : Prop := fnIntervalsRow.holds Try.pinned (OpenSpec.ofChange fnIntervalsSpec)

/-- ITS FALSE NEIGHBOUR: 'it returns false'. Refute it at one input. -/
def fnIntervalsWrong : ChangeSpec := { name := "fnIntervals", fn := fun _ => fun
  | [d] => { results := [.lit (.bool false)], args := [d] }
  | _ => none }
def FnIntervalsWrongFalsely : Prop := fnIntervalsRow.holds Try.pinned (OpenSpec.ofChange fnIntervalsWrong)

/-- 'laws.FnExactInInterval': WHATEVER THE INPUT: true; the input reads as it did. -/
def fnExactInIntervalSpec : ChangeSpec := { name := "fnExactInInterval", fn := fun _ => fun
  | [d1, d2] => { results := [.lit (.bool true)], args := [d1, d2] }
  | _ => none }
def fnExactInIntervalRow : OpenClaim := { program := "ythlinnbamejmaab", sum := "9470088f9d5c1e9fcb8dbdf78a2409cf1e805421c65240577e2a6e9fdfb8543b", func := "loop.example/g00039/laws.FnExactInInterval", spec := "fnExactInInterval", unfollowed := true, recurses := true, apart := false }
def FnExactInIntervalSaid : Prop := fnExactInIntervalRow.holds Try.pinned (OpenSpec.ofChange fnExactInIntervalSpec)

/-- ITS FALSE NEIGHBOUR: 'it returns false'. Refute it at one input. -/
def fnExactInIntervalWrong : ChangeSpec := { name := "fnExactInInterval", fn := fun _ => fun
  | [d1, d2] => { results := [.lit (.bool false)], args := [d1, d2] }
  | _ => none }
def FnExactInIntervalWrongFalsely : Prop := fnExactInIntervalRow.holds Try.pinned (OpenSpec.ofChange fnExactInIntervalWrong)

/-- 'laws.FnExactGoodInhibits': WHATEVER THE INPUT: true; the input reads as it did. -/
def fnExactGoodInhibitsSpec : ChangeSpec := { name := "fnExactGoodInhibits", fn := fun _ => fun
  | [d] => { results := [.lit (.bool true)], args := [d] }
  | _ => none }
def fnExactGoodInhibitsRow : OpenClaim := { program := "ythlinnbamejmaab", sum := "9470088f9d5c1e9fcb8dbdf78a2409cf1e805421c65240577e2a6e9fdfb8543b", func := "loop.example/g00039/laws.FnExactGoodInhibits", spec := "fnExactGoodInhibits", inPlace := ["internal/bytealg.IndexByteString"], unfollowed := true, recurses := true, apart := false }
def FnExactGoodInhibitsSaid : Prop := fnExactGoodInhibitsRow.holds Try.pinned (OpenSpec.ofChange fnExactGoodInhibitsSpec)

/-- ITS FALSE NEIGHBOUR: 'it returns false'. Refute it at one input. -/
def fnExactGoodInhibitsWrong : ChangeSpec := { name := "fnExactGoodInhibits", fn := fun _ => fun
  | [d] => { results := [.lit (.bool false)], args := [d] }
  | _ => none }
def FnExactGoodInhibitsWrongFalsely : Prop := fnExactGoodInhibitsRow.holds Try.pinned (OpenSpec.ofChange fnExactGoodInhibitsWrong)

/- THE SECOND FORM. 'bulk': how many values and letters a reading holds, each counted each time it is reached (what is shared counts as often as it is met; a slice's spare places count too). A statement '..UptoSaid' is the law's where the arguments, and the package variables that the reading takes, are together of bulk at most 1048576: NARROWER than '..Said'. Prove '..Said' where nothing that the law and all that it calls make is longer than what came in: it says more and counts as full. Else prove '..UptoSaid'. A law counts once. -/
mutual
def uptoBulk {H : Type} : DataW H → Nat
  | .lit (.string bytes) => bytes.length + 1
  | .lit _ => 1
  | .nil => 1
  | .ptr d => uptoBulk d + 1
  | .slice elems spare => uptoBulkAll elems + uptoBulkAll spare + 1
  | .agg parts => uptoBulkAll parts + 1
  | .iface _ d => uptoBulk d + 1
  | .map entries => uptoBulkEntries entries + 1
  | .held _ => 1
def uptoBulkAll {H : Type} : List (DataW H) → Nat
  | [] => 0
  | d :: r => uptoBulk d + uptoBulkAll r
def uptoBulkEntries {H : Type} : List (Lit × DataW H) → Nat
  | [] => 0
  | x :: r => uptoBulkEntry x + uptoBulkEntries r
def uptoBulkEntry {H : Type} : Lit × DataW H → Nat
  | (.string bytes, d) => bytes.length + uptoBulk d + 1
  | (_, d) => uptoBulk d + 1
 end
def uptoSmall : (H : Type) → List (DataW H) → Bool := fun _ ds => decide (uptoBulkAll ds ≤ 1048576)
def OpenSpec.upto (s : _root_.Go.ChangeSpec) : _root_.Go.OpenSpec := { _root_.Go.OpenSpec.ofChange s with cond := some uptoSmall }

/-- 'laws.FnExactGoodSilences', WHERE WHAT IT READS IS OF BULK AT MOST 1048576: true; the input reads as it did. -/
def fnExactGoodSilencesUptoRow : OpenClaim := { program := "ythlinnbamejmaab", sum := "9470088f9d5c1e9fcb8dbdf78a2409cf1e805421c65240577e2a6e9fdfb8543b", func := "loop.example/g00039/laws.FnExactGoodSilences", spec := "fnExactGoodSilences", inPlace := ["internal/bytealg.IndexByteString"], unfollowed := true, recurses := true, apart := false, narrowed := true }
def FnExactGoodSilencesUptoSaid : Prop := fnExactGoodSilencesUptoRow.holds Try.pinned (OpenSpec.upto fnExactGoodSilencesSpec)

/-- 'laws.FnIntervals', WHERE WHAT IT READS IS OF BULK AT MOST 1048576: true; the input reads as it did. -/
def fnIntervalsUptoRow : OpenClaim := { program := "ythlinnbamejmaab", sum := "9470088f9d5c1e9fcb8dbdf78a2409cf1e805421c65240577e2a6e9fdfb8543b", func := "loop.example/g00039/laws.FnIntervals", spec := "fnIntervals", unfollowed := true, recurses := true, apart := false, narrowed := true }
def FnIntervalsUptoSaid : Prop := fnIntervalsUptoRow.holds Try.pinned (OpenSpec.upto fnIntervalsSpec)

/-- 'laws.FnExactInInterval', WHERE WHAT IT READS IS OF BULK AT MOST 1048576: true; the input reads as it did. -/
def fnExactInIntervalUptoRow : OpenClaim := { program := "ythlinnbamejmaab", sum := "9470088f9d5c1e9fcb8dbdf78a2409cf1e805421c65240577e2a6e9fdfb8543b", func := "loop.example/g00039/laws.FnExactInInterval", spec := "fnExactInInterval", unfollowed := true, recurses := true, apart := false, narrowed := true }
def FnExactInIntervalUptoSaid : Prop := fnExactInIntervalUptoRow.holds Try.pinned (OpenSpec.upto fnExactInIntervalSpec)

/-- 'laws.FnExactGoodInhibits', WHERE WHAT IT READS IS OF BULK AT MOST 1048576: true; the input reads as it did. -/
def fnExactGoodInhibitsUptoRow : OpenClaim := { program := "ythlinnbamejmaab", sum := "9470088f9d5c1e9fcb8dbdf78a2409cf1e805421c65240577e2a6e9fdfb8543b", func := "loop.example/g00039/laws.FnExactGoodInhibits", spec := "fnExactGoodInhibits", inPlace := ["internal/bytealg.IndexByteString"], unfollowed := true, recurses := true, apart := false, narrowed := true }
def FnExactGoodInhibitsUptoSaid : Prop := fnExactGoodInhibitsUptoRow.holds Try.pinned (OpenSpec.upto fnExactGoodInhibitsSpec)

end Rows
end Go.Proofs.Ythlinnbamejmaab
