/-
  No cell of these rows narrows 'for every input' (looked for: loops, veiled, ifaces, maps, wideKeys, modest, calm, conditions, laid).
  DERIVED. THE GIVEN ROWS OF THIS SEAT. 4 by the template 'for every input the law returns true; each argument reads behind the call as it read before'; 0 by the template 'total and deterministic' (their statements: YtjleibkkhmhpmaaGreatTotals.lean).
  GIVEN WITH THE SEED: the statements are not yours to turn. If you find one false, say at which input.
  Laid BY PROGRAM, IN A SANDBOX (cutbox-rows.mjs): the forced cells as the released guide's own fill.sh prints them over the translation 0cf11f6e3743a635… (all of the seat's roots in one cut). By AI agents, Wed Nov 11 2026. No macro, syntax, notation, axiom, sorry.
-/
import Derived.Test.YtjleibkkhmhpmaaGreatChecked
import GoSem.Claim
import GoSem.ClaimJoined
import GoSem.ClaimMapViews
import Derived.JoinedTies
import Derived.KernelRfl
namespace Go.Proofs.YtjleibkkhmhpmaaGreat
/- THE CELL 'sum', in the pinned program and in every row, IS THE sha256 OF THE DUMP (.gsa) THAT YtjleibkkhmhpmaaGreatProg.lean LOADS. Nothing in Lean hashes anything: it is a label: what it is worth is what the hold of that sum in a sandbox is worth. -/
noncomputable def Tryz.pinned : Pinned := { name := "ytjleibkkhmhpmaagreat", sum := "0cf11f6e3743a635d8d4ef4a47983f6578cd229a91b7338c8801d78227a575d3", checked := Tryz.checked }
namespace Rows
def none {H : Type} : Left H := { results := [], args := [] }

/-- 'laws.FnExactGoodNotify': WHATEVER THE INPUT: true; the input reads as it did. -/
def fnExactGoodNotifySpec : ChangeSpec := { name := "fnExactGoodNotify", fn := fun _ => fun
  | [d] => { results := [.lit (.bool true)], args := [d] }
  | _ => none }
def fnExactGoodNotifyRow : OpenClaim := { program := "ytjleibkkhmhpmaagreat", sum := "0cf11f6e3743a635d8d4ef4a47983f6578cd229a91b7338c8801d78227a575d3", func := "loop.example/g00039/laws.FnExactGoodNotify", spec := "fnExactGoodNotify", inPlace := ["internal/bytealg.IndexByteString"], unfollowed := true, recurses := true, apart := false }
def FnExactGoodNotifySaid : Prop := fnExactGoodNotifyRow.holds Tryz.pinned (OpenSpec.ofChange fnExactGoodNotifySpec)

/-- ITS FALSE NEIGHBOUR: 'it returns false'. Refute it at one input. -/
def fnExactGoodNotifyWrong : ChangeSpec := { name := "fnExactGoodNotify", fn := fun _ => fun
  | [d] => { results := [.lit (.bool false)], args := [d] }
  | _ => none }
def FnExactGoodNotifyWrongFalsely : Prop := fnExactGoodNotifyRow.holds Tryz.pinned (OpenSpec.ofChange fnExactGoodNotifyWrong)

/-- 'laws.FnExactGoodMembers': WHATEVER THE INPUT: true; the input reads as it did. -/
def fnExactGoodMembersSpec : ChangeSpec := { name := "fnExactGoodMembers", fn := fun _ => fun
  | [d1, d2] => { results := [.lit (.bool true)], args := [d1, d2] }
  | _ => none }
def fnExactGoodMembersRow : OpenClaim := { program := "ytjleibkkhmhpmaagreat", sum := "0cf11f6e3743a635d8d4ef4a47983f6578cd229a91b7338c8801d78227a575d3", func := "loop.example/g00039/laws.FnExactGoodMembers", spec := "fnExactGoodMembers", inPlace := ["internal/bytealg.IndexByteString"], unfollowed := true, recurses := true, apart := false }
def FnExactGoodMembersSaid : Prop := fnExactGoodMembersRow.holds Tryz.pinned (OpenSpec.ofChange fnExactGoodMembersSpec)

/-- ITS FALSE NEIGHBOUR: 'it returns false'. Refute it at one input. -/
def fnExactGoodMembersWrong : ChangeSpec := { name := "fnExactGoodMembers", fn := fun _ => fun
  | [d1, d2] => { results := [.lit (.bool false)], args := [d1, d2] }
  | _ => none }
def FnExactGoodMembersWrongFalsely : Prop := fnExactGoodMembersRow.holds Tryz.pinned (OpenSpec.ofChange fnExactGoodMembersWrong)

/-- 'laws.FnExactMutedAt': WHATEVER THE INPUT: true; the input reads as it did. -/
def fnExactMutedAtSpec : ChangeSpec := { name := "fnExactMutedAt", fn := fun _ => fun
  | [d1, d2, d3] => { results := [.lit (.bool true)], args := [d1, d2, d3] }
  | _ => none }
def fnExactMutedAtRow : OpenClaim := { program := "ytjleibkkhmhpmaagreat", sum := "0cf11f6e3743a635d8d4ef4a47983f6578cd229a91b7338c8801d78227a575d3", func := "loop.example/g00039/laws.FnExactMutedAt", spec := "fnExactMutedAt", inPlace := ["internal/bytealg.IndexByteString"], unfollowed := true, recurses := true, apart := false }
def FnExactMutedAtSaid : Prop := fnExactMutedAtRow.holds Tryz.pinned (OpenSpec.ofChange fnExactMutedAtSpec)

/-- ITS FALSE NEIGHBOUR: 'it returns false'. Refute it at one input. -/
def fnExactMutedAtWrong : ChangeSpec := { name := "fnExactMutedAt", fn := fun _ => fun
  | [d1, d2, d3] => { results := [.lit (.bool false)], args := [d1, d2, d3] }
  | _ => none }
def FnExactMutedAtWrongFalsely : Prop := fnExactMutedAtRow.holds Tryz.pinned (OpenSpec.ofChange fnExactMutedAtWrong)

/-- 'laws.FnExactRoutesFor': WHATEVER THE INPUT: true; the input reads as it did. -/
def fnExactRoutesForSpec : ChangeSpec := { name := "fnExactRoutesFor", fn := fun _ => fun
  | [d1, d2] => { results := [.lit (.bool true)], args := [d1, d2] }
  | _ => none }
def fnExactRoutesForRow : OpenClaim := { program := "ytjleibkkhmhpmaagreat", sum := "0cf11f6e3743a635d8d4ef4a47983f6578cd229a91b7338c8801d78227a575d3", func := "loop.example/g00039/laws.FnExactRoutesFor", spec := "fnExactRoutesFor", inPlace := ["internal/bytealg.IndexByteString"], unfollowed := true, recurses := true, apart := false }
def FnExactRoutesForSaid : Prop := fnExactRoutesForRow.holds Tryz.pinned (OpenSpec.ofChange fnExactRoutesForSpec)

/-- ITS FALSE NEIGHBOUR: 'it returns false'. Refute it at one input. -/
def fnExactRoutesForWrong : ChangeSpec := { name := "fnExactRoutesFor", fn := fun _ => fun
  | [d1, d2] => { results := [.lit (.bool false)], args := [d1, d2] }
  | _ => none }
def FnExactRoutesForWrongFalsely : Prop := fnExactRoutesForRow.holds Tryz.pinned (OpenSpec.ofChange fnExactRoutesForWrong)

/- THE SECOND FORM. 'bulk': how many values and letters a reading holds, each counted each time it is reached (what is shared counts as often as it is met; a slice's spare places count too). A statement '..UptoSaid' is the law's where the arguments, and the package variables that the reading takes, are together of bulk at most 1048576: NARROWER than '..Said'. Prove '..Said' where nothing that the law and all that it calls make is longer than what came in: it says more and counts as full. Else prove '..UptoSaid'. A law counts once. -/
mutual
def uptoBulk {H : Type} : DataW H → Nat
  | .lit (.string bytes) => bytes.length + 1
  | .lit _ => 1
  | .nil => 1
  | .ptr d => uptoBulk d + 1
  | .slice elems spare => uptoBulkAll elems + uptoBulkAll spare + 1
  | .agg parts => uptoBulkAll parts + 1
  | .iface _ d => uptoBulk d + 1
  | .map entries => uptoBulkEntries entries + 1
  | .held _ => 1
def uptoBulkAll {H : Type} : List (DataW H) → Nat
  | [] => 0
  | d :: r => uptoBulk d + uptoBulkAll r
def uptoBulkEntries {H : Type} : List (Lit × DataW H) → Nat
  | [] => 0
  | x :: r => uptoBulkEntry x + uptoBulkEntries r
def uptoBulkEntry {H : Type} : Lit × DataW H → Nat
  | (.string bytes, d) => bytes.length + uptoBulk d + 1
  | (_, d) => uptoBulk d + 1
 end
def uptoSmall : (H : Type) → List (DataW H) → Bool := fun _ ds => decide (uptoBulkAll ds ≤ 1048576)
def OpenSpec.upto (s : _root_.Go.ChangeSpec) : _root_.Go.OpenSpec := { _root_.Go.OpenSpec.ofChange s with cond := some uptoSmall }

/-- 'laws.FnExactGoodNotify', WHERE WHAT IT READS IS OF BULK AT MOST 1048576: true; the input reads as it did. -/
def fnExactGoodNotifyUptoRow : OpenClaim := { program := "ytjleibkkhmhpmaagreat", sum := "0cf11f6e3743a635d8d4ef4a47983f6578cd229a91b7338c8801d78227a575d3", func := "loop.example/g00039/laws.FnExactGoodNotify", spec := "fnExactGoodNotify", inPlace := ["internal/bytealg.IndexByteString"], unfollowed := true, recurses := true, apart := false, narrowed := true }
def FnExactGoodNotifyUptoSaid : Prop := fnExactGoodNotifyUptoRow.holds Tryz.pinned (OpenSpec.upto fnExactGoodNotifySpec)

/-- 'laws.FnExactGoodMembers', WHERE WHAT IT READS IS OF BULK AT MOST 1048576: true; the input reads as it did. -/
def fnExactGoodMembersUptoRow : OpenClaim := { program := "ytjleibkkhmhpmaagreat", sum := "0cf11f6e3743a635d8d4ef4a47983f6578cd229a91b7338c8801d78227a575d3", func := "loop.example/g00039/laws.FnExactGoodMembers", spec := "fnExactGoodMembers", inPlace := ["internal/bytealg.IndexByteString"], unfollowed := true, recurses := true, apart := false, narrowed := true }
def FnExactGoodMembersUptoSaid : Prop := fnExactGoodMembersUptoRow.holds Tryz.pinned (OpenSpec.upto fnExactGoodMembersSpec)

/-- 'laws.FnExactMutedAt', WHERE WHAT IT READS IS OF BULK AT MOST 1048576: true; the input reads as it did. -/
def fnExactMutedAtUptoRow : OpenClaim := { program := "ytjleibkkhmhpmaagreat", sum := "0cf11f6e3743a635d8d4ef4a47983f6578cd229a91b7338c8801d78227a575d3", func := "loop.example/g00039/laws.FnExactMutedAt", spec := "fnExactMutedAt", inPlace := ["internal/bytealg.IndexByteString"], unfollowed := true, recurses := true, apart := false, narrowed := true }
def FnExactMutedAtUptoSaid : Prop := fnExactMutedAtUptoRow.holds Tryz.pinned (OpenSpec.upto fnExactMutedAtSpec)

/-- 'laws.FnExactRoutesFor', WHERE WHAT IT READS IS OF BULK AT MOST 1048576: true; the input reads as it did. -/
def fnExactRoutesForUptoRow : OpenClaim := { program := "ytjleibkkhmhpmaagreat", sum := "0cf11f6e3743a635d8d4ef4a47983f6578cd229a91b7338c8801d78227a575d3", func := "loop.example/g00039/laws.FnExactRoutesFor", spec := "fnExactRoutesFor", inPlace := ["internal/bytealg.IndexByteString"], unfollowed := true, recurses := true, apart := false, narrowed := true }
def FnExactRoutesForUptoSaid : Prop := fnExactRoutesForUptoRow.holds Tryz.pinned (OpenSpec.upto fnExactRoutesForSpec)

end Rows
end Go.Proofs.YtjleibkkhmhpmaaGreat
