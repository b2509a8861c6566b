/-
  No cell of these rows narrows 'for every input' (looked for: loops, veiled, ifaces, maps, wideKeys, modest, calm, conditions, laid).
  DERIVED. THE GIVEN ROWS OF THIS SEAT. 3 by the template 'for every input the law returns true; each argument reads behind the call as it read before'; 0 by the template 'total and deterministic' (their statements: YtlmenmaccoljeaaGreatTotals.lean).
  GIVEN WITH THE SEED: the statements are not yours to turn. If you find one false, say at which input.
  Laid BY PROGRAM, IN A SANDBOX (cutbox-rows.mjs): the forced cells as the released guide's own fill.sh prints them over the translation 844d9d37f6954d25… (all of the seat's roots in one cut). By AI agents, Wed Nov 11 2026. No macro, syntax, notation, axiom, sorry.
-/
import Derived.Test.YtlmenmaccoljeaaGreatChecked
import GoSem.Claim
import GoSem.ClaimJoined
import GoSem.ClaimMapViews
import Derived.JoinedTies
import Derived.KernelRfl
namespace Go.Proofs.YtlmenmaccoljeaaGreat
/- THE CELL 'sum', in the pinned program and in every row, IS THE sha256 OF THE DUMP (.gsa) THAT YtlmenmaccoljeaaGreatProg.lean LOADS. Nothing in Lean hashes anything: it is a label: what it is worth is what the hold of that sum in a sandbox is worth. -/
noncomputable def Tryz.pinned : Pinned := { name := "ytlmenmaccoljeaagreat", sum := "844d9d37f6954d25c740b5ecd0c7668c2cafb11e0af3b1a0fd22b5f5b4586bac", checked := Tryz.checked }
namespace Rows
def none {H : Type} : Left H := { results := [], args := [] }

/-- 'laws.FnExactShardable': WHATEVER THE INPUT: true; the input reads as it did. -/
def fnExactShardableSpec : ChangeSpec := { name := "fnExactShardable", fn := fun _ => fun
  | [d] => { results := [.lit (.bool true)], args := [d] }
  | _ => none }
def fnExactShardableRow : OpenClaim := { program := "ytlmenmaccoljeaagreat", sum := "844d9d37f6954d25c740b5ecd0c7668c2cafb11e0af3b1a0fd22b5f5b4586bac", func := "loop.example/g00039/laws.FnExactShardable", spec := "fnExactShardable", inPlace := ["internal/bytealg.IndexByteString", "internal/abi.NoEscape", "internal/bytealg.MakeNoZero"], unfollowed := true, recurses := true, apart := false }
def FnExactShardableSaid : Prop := fnExactShardableRow.holds Tryz.pinned (OpenSpec.ofChange fnExactShardableSpec)

/-- ITS FALSE NEIGHBOUR: 'it returns false'. Refute it at one input. -/
def fnExactShardableWrong : ChangeSpec := { name := "fnExactShardable", fn := fun _ => fun
  | [d] => { results := [.lit (.bool false)], args := [d] }
  | _ => none }
def FnExactShardableWrongFalsely : Prop := fnExactShardableRow.holds Tryz.pinned (OpenSpec.ofChange fnExactShardableWrong)

/-- 'laws.FnExactGoodGroup': WHATEVER THE INPUT: true; the input reads as it did. -/
def fnExactGoodGroupSpec : ChangeSpec := { name := "fnExactGoodGroup", fn := fun _ => fun
  | [d] => { results := [.lit (.bool true)], args := [d] }
  | _ => none }
def fnExactGoodGroupRow : OpenClaim := { program := "ytlmenmaccoljeaagreat", sum := "844d9d37f6954d25c740b5ecd0c7668c2cafb11e0af3b1a0fd22b5f5b4586bac", func := "loop.example/g00039/laws.FnExactGoodGroup", spec := "fnExactGoodGroup", inPlace := ["internal/bytealg.IndexByteString", "internal/abi.NoEscape", "internal/bytealg.MakeNoZero"], unfollowed := true, recurses := true, apart := false }
def FnExactGoodGroupSaid : Prop := fnExactGoodGroupRow.holds Tryz.pinned (OpenSpec.ofChange fnExactGoodGroupSpec)

/-- ITS FALSE NEIGHBOUR: 'it returns false'. Refute it at one input. -/
def fnExactGoodGroupWrong : ChangeSpec := { name := "fnExactGoodGroup", fn := fun _ => fun
  | [d] => { results := [.lit (.bool false)], args := [d] }
  | _ => none }
def FnExactGoodGroupWrongFalsely : Prop := fnExactGoodGroupRow.holds Tryz.pinned (OpenSpec.ofChange fnExactGoodGroupWrong)

/-- 'laws.FnExactFoldQuery': WHATEVER THE INPUT: true; the input reads as it did. -/
def fnExactFoldQuerySpec : ChangeSpec := { name := "fnExactFoldQuery", fn := fun _ => fun
  | [d] => { results := [.lit (.bool true)], args := [d] }
  | _ => none }
def fnExactFoldQueryRow : OpenClaim := { program := "ytlmenmaccoljeaagreat", sum := "844d9d37f6954d25c740b5ecd0c7668c2cafb11e0af3b1a0fd22b5f5b4586bac", func := "loop.example/g00039/laws.FnExactFoldQuery", spec := "fnExactFoldQuery", inPlace := ["internal/bytealg.IndexByteString", "internal/abi.NoEscape", "internal/bytealg.MakeNoZero"], unfollowed := true, recurses := true, apart := false }
def FnExactFoldQuerySaid : Prop := fnExactFoldQueryRow.holds Tryz.pinned (OpenSpec.ofChange fnExactFoldQuerySpec)

/-- ITS FALSE NEIGHBOUR: 'it returns false'. Refute it at one input. -/
def fnExactFoldQueryWrong : ChangeSpec := { name := "fnExactFoldQuery", fn := fun _ => fun
  | [d] => { results := [.lit (.bool false)], args := [d] }
  | _ => none }
def FnExactFoldQueryWrongFalsely : Prop := fnExactFoldQueryRow.holds Tryz.pinned (OpenSpec.ofChange fnExactFoldQueryWrong)

/- THE SECOND FORM. 'bulk': how many values and letters a reading holds, each counted each time it is reached (what is shared counts as often as it is met; a slice's spare places count too). A statement '..UptoSaid' is the law's where the arguments, and the package variables that the reading takes, are together of bulk at most 1048576: NARROWER than '..Said'. Prove '..Said' where nothing that the law and all that it calls make is longer than what came in: it says more and counts as full. Else prove '..UptoSaid'. A law counts once. -/
mutual
def uptoBulk {H : Type} : DataW H → Nat
  | .lit (.string bytes) => bytes.length + 1
  | .lit _ => 1
  | .nil => 1
  | .ptr d => uptoBulk d + 1
  | .slice elems spare => uptoBulkAll elems + uptoBulkAll spare + 1
  | .agg parts => uptoBulkAll parts + 1
  | .iface _ d => uptoBulk d + 1
  | .map entries => uptoBulkEntries entries + 1
  | .held _ => 1
def uptoBulkAll {H : Type} : List (DataW H) → Nat
  | [] => 0
  | d :: r => uptoBulk d + uptoBulkAll r
def uptoBulkEntries {H : Type} : List (Lit × DataW H) → Nat
  | [] => 0
  | x :: r => uptoBulkEntry x + uptoBulkEntries r
def uptoBulkEntry {H : Type} : Lit × DataW H → Nat
  | (.string bytes, d) => bytes.length + uptoBulk d + 1
  | (_, d) => uptoBulk d + 1
 end
def uptoSmall : (H : Type) → List (DataW H) → Bool := fun _ ds => decide (uptoBulkAll ds ≤ 1048576)
def OpenSpec.upto (s : _root_.Go.ChangeSpec) : _root_.Go.OpenSpec := { _root_.Go.OpenSpec.ofChange s with cond := some uptoSmall }

/-- 'laws.FnExactShardable', WHERE WHAT IT READS IS OF BULK AT MOST 1048576: true; the input reads as it did. -/
def fnExactShardableUptoRow : OpenClaim := { program := "ytlmenmaccoljeaagreat", sum := "844d9d37f6954d25c740b5ecd0c7668c2cafb11e0af3b1a0fd22b5f5b4586bac", func := "loop.example/g00039/laws.FnExactShardable", spec := "fnExactShardable", inPlace := ["internal/bytealg.IndexByteString", "internal/abi.NoEscape", "internal/bytealg.MakeNoZero"], unfollowed := true, recurses := true, apart := false, narrowed := true }
def FnExactShardableUptoSaid : Prop := fnExactShardableUptoRow.holds Tryz.pinned (OpenSpec.upto fnExactShardableSpec)

/-- 'laws.FnExactGoodGroup', WHERE WHAT IT READS IS OF BULK AT MOST 1048576: true; the input reads as it did. -/
def fnExactGoodGroupUptoRow : OpenClaim := { program := "ytlmenmaccoljeaagreat", sum := "844d9d37f6954d25c740b5ecd0c7668c2cafb11e0af3b1a0fd22b5f5b4586bac", func := "loop.example/g00039/laws.FnExactGoodGroup", spec := "fnExactGoodGroup", inPlace := ["internal/bytealg.IndexByteString", "internal/abi.NoEscape", "internal/bytealg.MakeNoZero"], unfollowed := true, recurses := true, apart := false, narrowed := true }
def FnExactGoodGroupUptoSaid : Prop := fnExactGoodGroupUptoRow.holds Tryz.pinned (OpenSpec.upto fnExactGoodGroupSpec)

/-- 'laws.FnExactFoldQuery', WHERE WHAT IT READS IS OF BULK AT MOST 1048576: true; the input reads as it did. -/
def fnExactFoldQueryUptoRow : OpenClaim := { program := "ytlmenmaccoljeaagreat", sum := "844d9d37f6954d25c740b5ecd0c7668c2cafb11e0af3b1a0fd22b5f5b4586bac", func := "loop.example/g00039/laws.FnExactFoldQuery", spec := "fnExactFoldQuery", inPlace := ["internal/bytealg.IndexByteString", "internal/abi.NoEscape", "internal/bytealg.MakeNoZero"], unfollowed := true, recurses := true, apart := false, narrowed := true }
def FnExactFoldQueryUptoSaid : Prop := fnExactFoldQueryUptoRow.holds Tryz.pinned (OpenSpec.upto fnExactFoldQuerySpec)

end Rows
end Go.Proofs.YtlmenmaccoljeaaGreat
