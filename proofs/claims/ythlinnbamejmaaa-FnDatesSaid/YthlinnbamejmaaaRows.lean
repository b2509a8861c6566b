/-
  No cell of these rows narrows 'for every input' (looked for: loops, veiled, ifaces, maps, wideKeys, modest, calm, conditions, laid).
  DERIVED. THE GIVEN ROWS OF THIS SEAT. 6 by the template 'for every input the law returns true; each argument reads behind the call as it read before'; 0 by the template 'total and deterministic' (their statements: YthlinnbamejmaaaTotals.lean).
  GIVEN WITH THE SEED: the statements are not yours to turn. If you find one false, say at which input.
  Laid BY PROGRAM, IN A SANDBOX (cutbox-rows.mjs): the forced cells as the released guide's own fill.sh prints them over the translation 4aadcd7b93b17936… (all of the seat's roots in one cut). By AI agents, Wed Nov 11 2026. No macro, syntax, notation, axiom, sorry.
-/
import Derived.Test.YthlinnbamejmaaaChecked
import GoSem.Claim
import GoSem.ClaimJoined
import GoSem.ClaimMapViews
import Derived.JoinedTies
import Derived.KernelRfl
namespace Go.Proofs.Ythlinnbamejmaaa
/- THE CELL 'sum', in the pinned program and in every row, IS THE sha256 OF THE DUMP (.gsa) THAT YthlinnbamejmaaaProg.lean LOADS. Nothing in Lean hashes anything: it is a label: what it is worth is what the hold of that sum in a sandbox is worth. -/
noncomputable def Try.pinned : Pinned := { name := "ythlinnbamejmaaa", sum := "4aadcd7b93b17936934a5c165851039c10ec695d4e071e8a474b86e0229fbf41", checked := Try.checked }
namespace Rows
def none {H : Type} : Left H := { results := [], args := [] }

/-- 'laws.FnExactDayNumber': WHATEVER THE INPUT: true; the input reads as it did. -/
def fnExactDayNumberSpec : ChangeSpec := { name := "fnExactDayNumber", fn := fun _ => fun
  | [d1, d2, d3] => { results := [.lit (.bool true)], args := [d1, d2, d3] }
  | _ => none }
def fnExactDayNumberRow : OpenClaim := { program := "ythlinnbamejmaaa", sum := "4aadcd7b93b17936934a5c165851039c10ec695d4e071e8a474b86e0229fbf41", func := "loop.example/g00039/laws.FnExactDayNumber", spec := "fnExactDayNumber", apart := false }
def FnExactDayNumberSaid : Prop := fnExactDayNumberRow.holds Try.pinned (OpenSpec.ofChange fnExactDayNumberSpec)

/-- ITS FALSE NEIGHBOUR: 'it returns false'. Refute it at one input. -/
def fnExactDayNumberWrong : ChangeSpec := { name := "fnExactDayNumber", fn := fun _ => fun
  | [d1, d2, d3] => { results := [.lit (.bool false)], args := [d1, d2, d3] }
  | _ => none }
def FnExactDayNumberWrongFalsely : Prop := fnExactDayNumberRow.holds Try.pinned (OpenSpec.ofChange fnExactDayNumberWrong)

/-- 'laws.FnExactSplitSpans': WHATEVER THE INPUT: true; the input reads as it did. -/
def fnExactSplitSpansSpec : ChangeSpec := { name := "fnExactSplitSpans", fn := fun _ => fun
  | [d1, d2, d3, d4] => { results := [.lit (.bool true)], args := [d1, d2, d3, d4] }
  | _ => none }
def fnExactSplitSpansRow : OpenClaim := { program := "ythlinnbamejmaaa", sum := "4aadcd7b93b17936934a5c165851039c10ec695d4e071e8a474b86e0229fbf41", func := "loop.example/g00039/laws.FnExactSplitSpans", spec := "fnExactSplitSpans", apart := false }
def FnExactSplitSpansSaid : Prop := fnExactSplitSpansRow.holds Try.pinned (OpenSpec.ofChange fnExactSplitSpansSpec)

/-- ITS FALSE NEIGHBOUR: 'it returns false'. Refute it at one input. -/
def fnExactSplitSpansWrong : ChangeSpec := { name := "fnExactSplitSpans", fn := fun _ => fun
  | [d1, d2, d3, d4] => { results := [.lit (.bool false)], args := [d1, d2, d3, d4] }
  | _ => none }
def FnExactSplitSpansWrongFalsely : Prop := fnExactSplitSpansRow.holds Try.pinned (OpenSpec.ofChange fnExactSplitSpansWrong)

/-- 'laws.FnExactDateOf': WHATEVER THE INPUT: true; the input reads as it did. -/
def fnExactDateOfSpec : ChangeSpec := { name := "fnExactDateOf", fn := fun _ => fun
  | [d1, d2] => { results := [.lit (.bool true)], args := [d1, d2] }
  | _ => none }
def fnExactDateOfRow : OpenClaim := { program := "ythlinnbamejmaaa", sum := "4aadcd7b93b17936934a5c165851039c10ec695d4e071e8a474b86e0229fbf41", func := "loop.example/g00039/laws.FnExactDateOf", spec := "fnExactDateOf", apart := false }
def FnExactDateOfSaid : Prop := fnExactDateOfRow.holds Try.pinned (OpenSpec.ofChange fnExactDateOfSpec)

/-- ITS FALSE NEIGHBOUR: 'it returns false'. Refute it at one input. -/
def fnExactDateOfWrong : ChangeSpec := { name := "fnExactDateOf", fn := fun _ => fun
  | [d1, d2] => { results := [.lit (.bool false)], args := [d1, d2] }
  | _ => none }
def FnExactDateOfWrongFalsely : Prop := fnExactDateOfRow.holds Try.pinned (OpenSpec.ofChange fnExactDateOfWrong)

/-- 'laws.FnExactGoodTemplate': WHATEVER THE INPUT: true; the input reads as it did. -/
def fnExactGoodTemplateSpec : ChangeSpec := { name := "fnExactGoodTemplate", fn := fun _ => fun
  | [d] => { results := [.lit (.bool true)], args := [d] }
  | _ => none }
def fnExactGoodTemplateRow : OpenClaim := { program := "ythlinnbamejmaaa", sum := "4aadcd7b93b17936934a5c165851039c10ec695d4e071e8a474b86e0229fbf41", func := "loop.example/g00039/laws.FnExactGoodTemplate", spec := "fnExactGoodTemplate", apart := false }
def FnExactGoodTemplateSaid : Prop := fnExactGoodTemplateRow.holds Try.pinned (OpenSpec.ofChange fnExactGoodTemplateSpec)

/-- ITS FALSE NEIGHBOUR: 'it returns false'. Refute it at one input. -/
def fnExactGoodTemplateWrong : ChangeSpec := { name := "fnExactGoodTemplate", fn := fun _ => fun
  | [d] => { results := [.lit (.bool false)], args := [d] }
  | _ => none }
def FnExactGoodTemplateWrongFalsely : Prop := fnExactGoodTemplateRow.holds Try.pinned (OpenSpec.ofChange fnExactGoodTemplateWrong)

/-- 'laws.FnDates': WHATEVER THE INPUT: true; the input reads as it did. -/
def fnDatesSpec : ChangeSpec := { name := "fnDates", fn := fun _ => fun
  | [d] => { results := [.lit (.bool true)], args := [d] }
  | _ => none }
def fnDatesRow : OpenClaim := { program := "ythlinnbamejmaaa", sum := "4aadcd7b93b17936934a5c165851039c10ec695d4e071e8a474b86e0229fbf41", func := "loop.example/g00039/laws.FnDates", spec := "fnDates", apart := false }
def FnDatesSaid : Prop := fnDatesRow.holds Try.pinned (OpenSpec.ofChange fnDatesSpec)

/-- ITS FALSE NEIGHBOUR: 'it returns false'. Refute it at one input. -/
def fnDatesWrong : ChangeSpec := { name := "fnDates", fn := fun _ => fun
  | [d] => { results := [.lit (.bool false)], args := [d] }
  | _ => none }
def FnDatesWrongFalsely : Prop := fnDatesRow.holds Try.pinned (OpenSpec.ofChange fnDatesWrong)

/-- 'laws.FnExactGoodInterval': WHATEVER THE INPUT: true; the input reads as it did. -/
def fnExactGoodIntervalSpec : ChangeSpec := { name := "fnExactGoodInterval", fn := fun _ => fun
  | [d] => { results := [.lit (.bool true)], args := [d] }
  | _ => none }
def fnExactGoodIntervalRow : OpenClaim := { program := "ythlinnbamejmaaa", sum := "4aadcd7b93b17936934a5c165851039c10ec695d4e071e8a474b86e0229fbf41", func := "loop.example/g00039/laws.FnExactGoodInterval", spec := "fnExactGoodInterval", unfollowed := true, recurses := true, apart := false }
def FnExactGoodIntervalSaid : Prop := fnExactGoodIntervalRow.holds Try.pinned (OpenSpec.ofChange fnExactGoodIntervalSpec)

/-- ITS FALSE NEIGHBOUR: 'it returns false'. Refute it at one input. -/
def fnExactGoodIntervalWrong : ChangeSpec := { name := "fnExactGoodInterval", fn := fun _ => fun
  | [d] => { results := [.lit (.bool false)], args := [d] }
  | _ => none }
def FnExactGoodIntervalWrongFalsely : Prop := fnExactGoodIntervalRow.holds Try.pinned (OpenSpec.ofChange fnExactGoodIntervalWrong)

/- THE SECOND FORM. 'bulk': how many values and letters a reading holds, each counted each time it is reached (what is shared counts as often as it is met; a slice's spare places count too). A statement '..UptoSaid' is the law's where the arguments, and the package variables that the reading takes, are together of bulk at most 1048576: NARROWER than '..Said'. Prove '..Said' where nothing that the law and all that it calls make is longer than what came in: it says more and counts as full. Else prove '..UptoSaid'. A law counts once. -/
mutual
def uptoBulk {H : Type} : DataW H → Nat
  | .lit (.string bytes) => bytes.length + 1
  | .lit _ => 1
  | .nil => 1
  | .ptr d => uptoBulk d + 1
  | .slice elems spare => uptoBulkAll elems + uptoBulkAll spare + 1
  | .agg parts => uptoBulkAll parts + 1
  | .iface _ d => uptoBulk d + 1
  | .map entries => uptoBulkEntries entries + 1
  | .held _ => 1
def uptoBulkAll {H : Type} : List (DataW H) → Nat
  | [] => 0
  | d :: r => uptoBulk d + uptoBulkAll r
def uptoBulkEntries {H : Type} : List (Lit × DataW H) → Nat
  | [] => 0
  | x :: r => uptoBulkEntry x + uptoBulkEntries r
def uptoBulkEntry {H : Type} : Lit × DataW H → Nat
  | (.string bytes, d) => bytes.length + uptoBulk d + 1
  | (_, d) => uptoBulk d + 1
 end
def uptoSmall : (H : Type) → List (DataW H) → Bool := fun _ ds => decide (uptoBulkAll ds ≤ 1048576)
def OpenSpec.upto (s : _root_.Go.ChangeSpec) : _root_.Go.OpenSpec := { _root_.Go.OpenSpec.ofChange s with cond := some uptoSmall }

/-- 'laws.FnExactDayNumber', WHERE WHAT IT READS IS OF BULK AT MOST 1048576: true; the input reads as it did. -/
def fnExactDayNumberUptoRow : OpenClaim := { program := "ythlinnbamejmaaa", sum := "4aadcd7b93b17936934a5c165851039c10ec695d4e071e8a474b86e0229fbf41", func := "loop.example/g00039/laws.FnExactDayNumber", spec := "fnExactDayNumber", apart := false, narrowed := true }
def FnExactDayNumberUptoSaid : Prop := fnExactDayNumberUptoRow.holds Try.pinned (OpenSpec.upto fnExactDayNumberSpec)

/-- 'laws.FnExactSplitSpans', WHERE WHAT IT READS IS OF BULK AT MOST 1048576: true; the input reads as it did. -/
def fnExactSplitSpansUptoRow : OpenClaim := { program := "ythlinnbamejmaaa", sum := "4aadcd7b93b17936934a5c165851039c10ec695d4e071e8a474b86e0229fbf41", func := "loop.example/g00039/laws.FnExactSplitSpans", spec := "fnExactSplitSpans", apart := false, narrowed := true }
def FnExactSplitSpansUptoSaid : Prop := fnExactSplitSpansUptoRow.holds Try.pinned (OpenSpec.upto fnExactSplitSpansSpec)

/-- 'laws.FnExactDateOf', WHERE WHAT IT READS IS OF BULK AT MOST 1048576: true; the input reads as it did. -/
def fnExactDateOfUptoRow : OpenClaim := { program := "ythlinnbamejmaaa", sum := "4aadcd7b93b17936934a5c165851039c10ec695d4e071e8a474b86e0229fbf41", func := "loop.example/g00039/laws.FnExactDateOf", spec := "fnExactDateOf", apart := false, narrowed := true }
def FnExactDateOfUptoSaid : Prop := fnExactDateOfUptoRow.holds Try.pinned (OpenSpec.upto fnExactDateOfSpec)

/-- 'laws.FnExactGoodTemplate', WHERE WHAT IT READS IS OF BULK AT MOST 1048576: true; the input reads as it did. -/
def fnExactGoodTemplateUptoRow : OpenClaim := { program := "ythlinnbamejmaaa", sum := "4aadcd7b93b17936934a5c165851039c10ec695d4e071e8a474b86e0229fbf41", func := "loop.example/g00039/laws.FnExactGoodTemplate", spec := "fnExactGoodTemplate", apart := false, narrowed := true }
def FnExactGoodTemplateUptoSaid : Prop := fnExactGoodTemplateUptoRow.holds Try.pinned (OpenSpec.upto fnExactGoodTemplateSpec)

/-- 'laws.FnDates', WHERE WHAT IT READS IS OF BULK AT MOST 1048576: true; the input reads as it did. -/
def fnDatesUptoRow : OpenClaim := { program := "ythlinnbamejmaaa", sum := "4aadcd7b93b17936934a5c165851039c10ec695d4e071e8a474b86e0229fbf41", func := "loop.example/g00039/laws.FnDates", spec := "fnDates", apart := false, narrowed := true }
def FnDatesUptoSaid : Prop := fnDatesUptoRow.holds Try.pinned (OpenSpec.upto fnDatesSpec)

/-- 'laws.FnExactGoodInterval', WHERE WHAT IT READS IS OF BULK AT MOST 1048576: true; the input reads as it did. -/
def fnExactGoodIntervalUptoRow : OpenClaim := { program := "ythlinnbamejmaaa", sum := "4aadcd7b93b17936934a5c165851039c10ec695d4e071e8a474b86e0229fbf41", func := "loop.example/g00039/laws.FnExactGoodInterval", spec := "fnExactGoodInterval", unfollowed := true, recurses := true, apart := false, narrowed := true }
def FnExactGoodIntervalUptoSaid : Prop := fnExactGoodIntervalUptoRow.holds Try.pinned (OpenSpec.upto fnExactGoodIntervalSpec)

end Rows
end Go.Proofs.Ythlinnbamejmaaa
