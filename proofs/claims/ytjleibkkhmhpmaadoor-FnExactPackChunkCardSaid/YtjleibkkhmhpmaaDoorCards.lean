/-
  DERIVED. GIVEN WITH THE SEED: THE CARDS: each row of YtjleibkkhmhpmaaDoorRows.lean that lists a variable, with what it lists TIED to the program's text (the seventh form; the later family's looks); each row that meets fmt, with fmt's text TOLD by the authors' own Lean function (tested against real Go, not proved from fmt's source: count such statements apart). THE CARD IS WHAT COUNTS. Prove the row's statement (the work); the ties are given (YtjleibkkhmhpmaaDoorTie.lean); close each card by the builder's one call (the guide's Derived/Test/ToyasCard.lean, 'card_holds'). Laid BY PROGRAM, IN A SANDBOX (cutbox-door.mjs). By AI agents, Wed Nov 11 2026. No macro, syntax, notation, axiom, sorry.
-/
import Derived.Test.YtjleibkkhmhpmaaDoorRows
import GoSem.ClaimSeven
namespace Go.Proofs.YtjleibkkhmhpmaaDoor
namespace Rows

/-- THE TIED CARD OF 'laws.FnExactPackChunk'. -/
def fnExactPackChunkCard : Claim7 := { stood := { row := fnExactPackChunkRow, standIns := [], harness := (true, "12e713ebe65779ad8b3571ca1cd5d31cf0431546bb6a3b636776107e13ffcf44"), looks := false }, kinds := [], alts := [], laidByText := true, laidKinds := [.data], laidTests := true, laidLooks := .later }
def FnExactPackChunkCardSaid : Prop := Claim7.holds Tryd.pinned (.plain (OpenSpec.ofChange fnExactPackChunkSpec)) fnExactPackChunkCard

/-- THE SECOND FORM's CARD OF 'laws.FnExactPackChunk'. -/
def fnExactPackChunkUptoCard : Claim7 := { stood := { row := fnExactPackChunkUptoRow, standIns := [], harness := (true, "12e713ebe65779ad8b3571ca1cd5d31cf0431546bb6a3b636776107e13ffcf44"), looks := false }, kinds := [], alts := [], laidByText := true, laidKinds := [.data], laidTests := true, laidLooks := .later }
def FnExactPackChunkUptoCardSaid : Prop := Claim7.holds Tryd.pinned (.plain (OpenSpec.upto fnExactPackChunkSpec)) fnExactPackChunkUptoCard
end Rows
end Go.Proofs.YtjleibkkhmhpmaaDoor
