/-
  No cell of these rows narrows 'for every input' (looked for: loops, veiled, ifaces, maps, wideKeys, modest, calm, conditions, laid).
  DERIVED. THE GIVEN ROWS OF THIS SEAT. 4 by the template 'for every input the law returns true; each argument reads behind the call as it read before'; 0 by the template 'total and deterministic' (their statements: YtcfcnnamjfgahabTotals.lean).
  GIVEN WITH THE SEED: the statements are not yours to turn. If you find one false, say at which input.
  Laid BY PROGRAM, IN A SANDBOX (cutbox-rows.mjs): the forced cells as the released guide's own fill.sh prints them over the translation 4ee1f2724cc474bb… (all of the seat's roots in one cut). By AI agents, Wed Nov 11 2026. No macro, syntax, notation, axiom, sorry.
-/
import Derived.Test.YtcfcnnamjfgahabChecked
import GoSem.Claim
import GoSem.ClaimJoined
import GoSem.ClaimMapViews
import Derived.JoinedTies
import Derived.KernelRfl
namespace Go.Proofs.Ytcfcnnamjfgahab
/- THE CELL 'sum', in the pinned program and in every row, IS THE sha256 OF THE DUMP (.gsa) THAT YtcfcnnamjfgahabProg.lean LOADS. Nothing in Lean hashes anything: it is a label: what it is worth is what the hold of that sum in a sandbox is worth. -/
noncomputable def Try.pinned : Pinned := { name := "ytcfcnnamjfgahab", sum := "4ee1f2724cc474bb4868571843fbcf3959c01ef5e6b53941798ba00f7c697aa1", checked := Try.checked }
namespace Rows
def none {H : Type} : Left H := { results := [], args := [] }

/-- 'laws.FnExactSilenced': WHATEVER THE INPUT: true; the input reads as it did. -/
def fnExactSilencedSpec : ChangeSpec := { name := "fnExactSilenced", fn := fun _ => fun
  | [d1, d2, d3] => { results := [.lit (.bool true)], args := [d1, d2, d3] }
  | _ => none }
def fnExactSilencedRow : OpenClaim := { program := "ytcfcnnamjfgahab", sum := "4ee1f2724cc474bb4868571843fbcf3959c01ef5e6b53941798ba00f7c697aa1", func := "loop.example/g00039/laws.FnExactSilenced", spec := "fnExactSilenced", inPlace := ["internal/bytealg.IndexByteString"], unfollowed := true, recurses := true, apart := false }
def FnExactSilencedSaid : Prop := fnExactSilencedRow.holds Try.pinned (OpenSpec.ofChange fnExactSilencedSpec)

/-- ITS FALSE NEIGHBOUR: 'it returns false'. Refute it at one input. -/
def fnExactSilencedWrong : ChangeSpec := { name := "fnExactSilenced", fn := fun _ => fun
  | [d1, d2, d3] => { results := [.lit (.bool false)], args := [d1, d2, d3] }
  | _ => none }
def FnExactSilencedWrongFalsely : Prop := fnExactSilencedRow.holds Try.pinned (OpenSpec.ofChange fnExactSilencedWrong)

/-- 'laws.FnExactInhibited': WHATEVER THE INPUT: true; the input reads as it did. -/
def fnExactInhibitedSpec : ChangeSpec := { name := "fnExactInhibited", fn := fun _ => fun
  | [d1, d2, d3] => { results := [.lit (.bool true)], args := [d1, d2, d3] }
  | _ => none }
def fnExactInhibitedRow : OpenClaim := { program := "ytcfcnnamjfgahab", sum := "4ee1f2724cc474bb4868571843fbcf3959c01ef5e6b53941798ba00f7c697aa1", func := "loop.example/g00039/laws.FnExactInhibited", spec := "fnExactInhibited", inPlace := ["internal/bytealg.IndexByteString"], unfollowed := true, recurses := true, apart := false }
def FnExactInhibitedSaid : Prop := fnExactInhibitedRow.holds Try.pinned (OpenSpec.ofChange fnExactInhibitedSpec)

/-- ITS FALSE NEIGHBOUR: 'it returns false'. Refute it at one input. -/
def fnExactInhibitedWrong : ChangeSpec := { name := "fnExactInhibited", fn := fun _ => fun
  | [d1, d2, d3] => { results := [.lit (.bool false)], args := [d1, d2, d3] }
  | _ => none }
def FnExactInhibitedWrongFalsely : Prop := fnExactInhibitedRow.holds Try.pinned (OpenSpec.ofChange fnExactInhibitedWrong)

/-- 'laws.FnExactGroupOf': WHATEVER THE INPUT: true; the input reads as it did. -/
def fnExactGroupOfSpec : ChangeSpec := { name := "fnExactGroupOf", fn := fun _ => fun
  | [d1, d2, d3] => { results := [.lit (.bool true)], args := [d1, d2, d3] }
  | _ => none }
def fnExactGroupOfRow : OpenClaim := { program := "ytcfcnnamjfgahab", sum := "4ee1f2724cc474bb4868571843fbcf3959c01ef5e6b53941798ba00f7c697aa1", func := "loop.example/g00039/laws.FnExactGroupOf", spec := "fnExactGroupOf", inPlace := ["internal/bytealg.IndexByteString"], unfollowed := true, recurses := true, apart := false }
def FnExactGroupOfSaid : Prop := fnExactGroupOfRow.holds Try.pinned (OpenSpec.ofChange fnExactGroupOfSpec)

/-- ITS FALSE NEIGHBOUR: 'it returns false'. Refute it at one input. -/
def fnExactGroupOfWrong : ChangeSpec := { name := "fnExactGroupOf", fn := fun _ => fun
  | [d1, d2, d3] => { results := [.lit (.bool false)], args := [d1, d2, d3] }
  | _ => none }
def FnExactGroupOfWrongFalsely : Prop := fnExactGroupOfRow.holds Try.pinned (OpenSpec.ofChange fnExactGroupOfWrong)

/-- 'laws.FnPuts': WHATEVER THE INPUT: true; the input reads as it did. -/
def fnPutsSpec : ChangeSpec := { name := "fnPuts", fn := fun _ => fun
  | [d1, d2] => { results := [.lit (.bool true)], args := [d1, d2] }
  | _ => none }
def fnPutsRow : OpenClaim := { program := "ytcfcnnamjfgahab", sum := "4ee1f2724cc474bb4868571843fbcf3959c01ef5e6b53941798ba00f7c697aa1", func := "loop.example/g00039/laws.FnPuts", spec := "fnPuts", inPlace := ["slices.overlaps[loop.example/g00039/impl.Series]", "slices.overlaps[loop.example/g00039/impl.Sample]"], unfollowed := true, recurses := true, apart := false }
def FnPutsSaid : Prop := fnPutsRow.holds Try.pinned (OpenSpec.ofChange fnPutsSpec)

/-- ITS FALSE NEIGHBOUR: 'it returns false'. Refute it at one input. -/
def fnPutsWrong : ChangeSpec := { name := "fnPuts", fn := fun _ => fun
  | [d1, d2] => { results := [.lit (.bool false)], args := [d1, d2] }
  | _ => none }
def FnPutsWrongFalsely : Prop := fnPutsRow.holds Try.pinned (OpenSpec.ofChange fnPutsWrong)

/- THE SECOND FORM. 'bulk': how many values and letters a reading holds, each counted each time it is reached (what is shared counts as often as it is met; a slice's spare places count too). A statement '..UptoSaid' is the law's where the arguments, and the package variables that the reading takes, are together of bulk at most 1048576: NARROWER than '..Said'. Prove '..Said' where nothing that the law and all that it calls make is longer than what came in: it says more and counts as full. Else prove '..UptoSaid'. A law counts once. -/
mutual
def uptoBulk {H : Type} : DataW H → Nat
  | .lit (.string bytes) => bytes.length + 1
  | .lit _ => 1
  | .nil => 1
  | .ptr d => uptoBulk d + 1
  | .slice elems spare => uptoBulkAll elems + uptoBulkAll spare + 1
  | .agg parts => uptoBulkAll parts + 1
  | .iface _ d => uptoBulk d + 1
  | .map entries => uptoBulkEntries entries + 1
  | .held _ => 1
def uptoBulkAll {H : Type} : List (DataW H) → Nat
  | [] => 0
  | d :: r => uptoBulk d + uptoBulkAll r
def uptoBulkEntries {H : Type} : List (Lit × DataW H) → Nat
  | [] => 0
  | x :: r => uptoBulkEntry x + uptoBulkEntries r
def uptoBulkEntry {H : Type} : Lit × DataW H → Nat
  | (.string bytes, d) => bytes.length + uptoBulk d + 1
  | (_, d) => uptoBulk d + 1
 end
def uptoSmall : (H : Type) → List (DataW H) → Bool := fun _ ds => decide (uptoBulkAll ds ≤ 1048576)
def OpenSpec.upto (s : _root_.Go.ChangeSpec) : _root_.Go.OpenSpec := { _root_.Go.OpenSpec.ofChange s with cond := some uptoSmall }

/-- 'laws.FnExactSilenced', WHERE WHAT IT READS IS OF BULK AT MOST 1048576: true; the input reads as it did. -/
def fnExactSilencedUptoRow : OpenClaim := { program := "ytcfcnnamjfgahab", sum := "4ee1f2724cc474bb4868571843fbcf3959c01ef5e6b53941798ba00f7c697aa1", func := "loop.example/g00039/laws.FnExactSilenced", spec := "fnExactSilenced", inPlace := ["internal/bytealg.IndexByteString"], unfollowed := true, recurses := true, apart := false, narrowed := true }
def FnExactSilencedUptoSaid : Prop := fnExactSilencedUptoRow.holds Try.pinned (OpenSpec.upto fnExactSilencedSpec)

/-- 'laws.FnExactInhibited', WHERE WHAT IT READS IS OF BULK AT MOST 1048576: true; the input reads as it did. -/
def fnExactInhibitedUptoRow : OpenClaim := { program := "ytcfcnnamjfgahab", sum := "4ee1f2724cc474bb4868571843fbcf3959c01ef5e6b53941798ba00f7c697aa1", func := "loop.example/g00039/laws.FnExactInhibited", spec := "fnExactInhibited", inPlace := ["internal/bytealg.IndexByteString"], unfollowed := true, recurses := true, apart := false, narrowed := true }
def FnExactInhibitedUptoSaid : Prop := fnExactInhibitedUptoRow.holds Try.pinned (OpenSpec.upto fnExactInhibitedSpec)

/-- 'laws.FnExactGroupOf', WHERE WHAT IT READS IS OF BULK AT MOST 1048576: true; the input reads as it did. -/
def fnExactGroupOfUptoRow : OpenClaim := { program := "ytcfcnnamjfgahab", sum := "4ee1f2724cc474bb4868571843fbcf3959c01ef5e6b53941798ba00f7c697aa1", func := "loop.example/g00039/laws.FnExactGroupOf", spec := "fnExactGroupOf", inPlace := ["internal/bytealg.IndexByteString"], unfollowed := true, recurses := true, apart := false, narrowed := true }
def FnExactGroupOfUptoSaid : Prop := fnExactGroupOfUptoRow.holds Try.pinned (OpenSpec.upto fnExactGroupOfSpec)

/-- 'laws.FnPuts', WHERE WHAT IT READS IS OF BULK AT MOST 1048576: true; the input reads as it did. -/
def fnPutsUptoRow : OpenClaim := { program := "ytcfcnnamjfgahab", sum := "4ee1f2724cc474bb4868571843fbcf3959c01ef5e6b53941798ba00f7c697aa1", func := "loop.example/g00039/laws.FnPuts", spec := "fnPuts", inPlace := ["slices.overlaps[loop.example/g00039/impl.Series]", "slices.overlaps[loop.example/g00039/impl.Sample]"], unfollowed := true, recurses := true, apart := false, narrowed := true }
def FnPutsUptoSaid : Prop := fnPutsUptoRow.holds Try.pinned (OpenSpec.upto fnPutsSpec)

end Rows
end Go.Proofs.Ytcfcnnamjfgahab
