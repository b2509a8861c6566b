/-
  DERIVED. GIVEN WITH THE SEED: THE CARDS: each row of YtomceidbdkdmlaaGreatDoorRows.lean that lists a variable, with what it lists TIED to the program's text (the seventh form; the later family's looks); each row that meets fmt, with fmt's text TOLD by the authors' own Lean function (tested against real Go, not proved from fmt's source: count such statements apart). THE CARD IS WHAT COUNTS. Prove the row's statement (the work); the ties are given (YtomceidbdkdmlaaGreatDoorTie.lean); close each card by the builder's one call (the guide's Derived/Test/ToyasCard.lean, 'card_holds'). Laid BY PROGRAM, IN A SANDBOX (cutbox-door.mjs). By AI agents, Wed Nov 11 2026. No macro, syntax, notation, axiom, sorry.
-/
import Derived.Test.YtomceidbdkdmlaaGreatDoorRows
import GoSem.ClaimSeven
namespace Go.Proofs.YtomceidbdkdmlaaGreatDoor
namespace Rows

/-- THE TIED CARD OF 'laws.FnExactRoutesText'. -/
def fnExactRoutesTextCard : Claim7 := { stood := { row := fnExactRoutesTextRow, standIns := [], harness := (true, "7f0bff31573f2660424b02c98084e49782f692c6f80f237d8a067779f87dfa1e"), looks := false }, kinds := [], alts := [], laidByText := true, laidKinds := [.data, .data, .data, .widerDeep], laidTests := true, laidLooks := .later }
def FnExactRoutesTextCardSaid : Prop := Claim7.holds Tryz.pinned (.plain (OpenSpec.ofChange fnExactRoutesTextSpec)) fnExactRoutesTextCard

/-- THE SECOND FORM's CARD OF 'laws.FnExactRoutesText'. -/
def fnExactRoutesTextUptoCard : Claim7 := { stood := { row := fnExactRoutesTextUptoRow, standIns := [], harness := (true, "7f0bff31573f2660424b02c98084e49782f692c6f80f237d8a067779f87dfa1e"), looks := false }, kinds := [], alts := [], laidByText := true, laidKinds := [.data, .data, .data, .widerDeep], laidTests := true, laidLooks := .later }
def FnExactRoutesTextUptoCardSaid : Prop := Claim7.holds Tryz.pinned (.plain (OpenSpec.upto fnExactRoutesTextSpec)) fnExactRoutesTextUptoCard
end Rows
end Go.Proofs.YtomceidbdkdmlaaGreatDoor
