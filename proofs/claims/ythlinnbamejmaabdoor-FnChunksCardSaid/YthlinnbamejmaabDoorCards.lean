/-
  DERIVED. GIVEN WITH THE SEED: THE CARDS: each row of YthlinnbamejmaabDoorRows.lean that lists a variable, with what it lists TIED to the program's text (the seventh form; the later family's looks); each row that meets fmt, with fmt's text TOLD by the authors' own Lean function (tested against real Go, not proved from fmt's source: count such statements apart). THE CARD IS WHAT COUNTS. Prove the row's statement (the work); the ties are given (YthlinnbamejmaabDoorTie.lean); close each card by the builder's one call (the guide's Derived/Test/ToyasCard.lean, 'card_holds'). Laid BY PROGRAM, IN A SANDBOX (cutbox-door.mjs). By AI agents, Wed Nov 11 2026. No macro, syntax, notation, axiom, sorry.
-/
import Derived.Test.YthlinnbamejmaabDoorRows
import GoSem.ClaimSeven
namespace Go.Proofs.YthlinnbamejmaabDoor
namespace Rows

/-- THE TIED CARD OF 'laws.FnExactPackChunk'. -/
def fnExactPackChunkCard : Claim7 := { stood := { row := fnExactPackChunkRow, standIns := [], harness := (true, "ae02ecf59cf32437bed8d92d6a084de5d45d8fbe4c4bf3d3800a457241fd5bb3"), looks := true }, kinds := [], alts := [], laidByText := true, laidKinds := [.data], laidTests := true, laidLooks := .later }
def FnExactPackChunkCardSaid : Prop := Claim7.holds Tryd.pinned (.plain (OpenSpec.ofChange fnExactPackChunkSpec)) fnExactPackChunkCard

/-- THE TIED CARD OF 'laws.FnChunks'. -/
def fnChunksCard : Claim7 := { stood := { row := fnChunksRow, standIns := [], harness := (true, "ae02ecf59cf32437bed8d92d6a084de5d45d8fbe4c4bf3d3800a457241fd5bb3"), looks := true }, kinds := [], alts := [], laidByText := true, laidKinds := [.data], laidTests := true, laidLooks := .later }
def FnChunksCardSaid : Prop := Claim7.holds Tryd.pinned (.plain (OpenSpec.ofChange fnChunksSpec)) fnChunksCard

/-- THE SECOND FORM's CARD OF 'laws.FnExactPackChunk'. -/
def fnExactPackChunkUptoCard : Claim7 := { stood := { row := fnExactPackChunkUptoRow, standIns := [], harness := (true, "ae02ecf59cf32437bed8d92d6a084de5d45d8fbe4c4bf3d3800a457241fd5bb3"), looks := true }, kinds := [], alts := [], laidByText := true, laidKinds := [.data], laidTests := true, laidLooks := .later }
def FnExactPackChunkUptoCardSaid : Prop := Claim7.holds Tryd.pinned (.plain (OpenSpec.upto fnExactPackChunkSpec)) fnExactPackChunkUptoCard

/-- THE SECOND FORM's CARD OF 'laws.FnChunks'. -/
def fnChunksUptoCard : Claim7 := { stood := { row := fnChunksUptoRow, standIns := [], harness := (true, "ae02ecf59cf32437bed8d92d6a084de5d45d8fbe4c4bf3d3800a457241fd5bb3"), looks := true }, kinds := [], alts := [], laidByText := true, laidKinds := [.data], laidTests := true, laidLooks := .later }
def FnChunksUptoCardSaid : Prop := Claim7.holds Tryd.pinned (.plain (OpenSpec.upto fnChunksSpec)) fnChunksUptoCard
end Rows
end Go.Proofs.YthlinnbamejmaabDoor
