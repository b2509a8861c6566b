/-
  DERIVED. GIVEN WITH THE SEED: THE CARDS: each row of YtcfcnnamjfgahaaDoorRows.lean that lists a variable, with what it lists TIED to the program's text (the seventh form; the later family's looks); each row that meets fmt, with fmt's text TOLD by the authors' own Lean function (tested against real Go, not proved from fmt's source: count such statements apart). THE CARD IS WHAT COUNTS. Prove the row's statement (the work); the ties are given (YtcfcnnamjfgahaaDoorTie.lean); close each card by the builder's one call (the guide's Derived/Test/ToyasCard.lean, 'card_holds'). Laid BY PROGRAM, IN A SANDBOX (cutbox-door.mjs). By AI agents, Wed Nov 11 2026. No macro, syntax, notation, axiom, sorry.
-/
import Derived.Test.YtcfcnnamjfgahaaDoorRows
import GoSem.ClaimSeven
namespace Go.Proofs.YtcfcnnamjfgahaaDoor
namespace Rows

/-- THE TIED CARD OF 'laws.FnExactCountOf'. -/
def fnExactCountOfCard : Claim7 := { stood := { row := fnExactCountOfRow, standIns := [], harness := (true, "fd1eb37d4e3d446c65d8ea2903535243a1fa66abad73ba4c2d475e5617d3c320"), looks := true }, kinds := [], alts := [], laidByText := true, laidKinds := [.data], laidTests := true, laidLooks := .later }
def FnExactCountOfCardSaid : Prop := Claim7.holds Tryd.pinned (.plain (OpenSpec.ofChange fnExactCountOfSpec)) fnExactCountOfCard

/-- THE TIED CARD OF 'laws.FnExactUnpackChunk'. -/
def fnExactUnpackChunkCard : Claim7 := { stood := { row := fnExactUnpackChunkRow, standIns := [], harness := (true, "fd1eb37d4e3d446c65d8ea2903535243a1fa66abad73ba4c2d475e5617d3c320"), looks := true }, kinds := [], alts := [], laidByText := true, laidKinds := [.data], laidTests := true, laidLooks := .later }
def FnExactUnpackChunkCardSaid : Prop := Claim7.holds Tryd.pinned (.plain (OpenSpec.ofChange fnExactUnpackChunkSpec)) fnExactUnpackChunkCard

/-- THE TIED CARD OF 'laws.FnExactAppendChunk'. -/
def fnExactAppendChunkCard : Claim7 := { stood := { row := fnExactAppendChunkRow, standIns := [], harness := (true, "fd1eb37d4e3d446c65d8ea2903535243a1fa66abad73ba4c2d475e5617d3c320"), looks := true }, kinds := [], alts := [], laidByText := true, laidKinds := [.data], laidTests := true, laidLooks := .later }
def FnExactAppendChunkCardSaid : Prop := Claim7.holds Tryd.pinned (.plain (OpenSpec.ofChange fnExactAppendChunkSpec)) fnExactAppendChunkCard

/-- THE TIED CARD OF 'laws.FnExactFillTemplate'. -/
def fnExactFillTemplateCard : Claim7 := { stood := { row := fnExactFillTemplateRow, standIns := [], harness := (true, "fd1eb37d4e3d446c65d8ea2903535243a1fa66abad73ba4c2d475e5617d3c320"), looks := true }, kinds := [], alts := [], laidByText := true, laidKinds := [.data, .data, .data], laidTests := true, laidLooks := .later }
def FnExactFillTemplateCardSaid : Prop := Claim7.holds Tryd.pinned (.plain (OpenSpec.ofChange fnExactFillTemplateSpec)) fnExactFillTemplateCard

/-- THE SECOND FORM's CARD OF 'laws.FnExactCountOf'. -/
def fnExactCountOfUptoCard : Claim7 := { stood := { row := fnExactCountOfUptoRow, standIns := [], harness := (true, "fd1eb37d4e3d446c65d8ea2903535243a1fa66abad73ba4c2d475e5617d3c320"), looks := true }, kinds := [], alts := [], laidByText := true, laidKinds := [.data], laidTests := true, laidLooks := .later }
def FnExactCountOfUptoCardSaid : Prop := Claim7.holds Tryd.pinned (.plain (OpenSpec.upto fnExactCountOfSpec)) fnExactCountOfUptoCard

/-- THE SECOND FORM's CARD OF 'laws.FnExactUnpackChunk'. -/
def fnExactUnpackChunkUptoCard : Claim7 := { stood := { row := fnExactUnpackChunkUptoRow, standIns := [], harness := (true, "fd1eb37d4e3d446c65d8ea2903535243a1fa66abad73ba4c2d475e5617d3c320"), looks := true }, kinds := [], alts := [], laidByText := true, laidKinds := [.data], laidTests := true, laidLooks := .later }
def FnExactUnpackChunkUptoCardSaid : Prop := Claim7.holds Tryd.pinned (.plain (OpenSpec.upto fnExactUnpackChunkSpec)) fnExactUnpackChunkUptoCard

/-- THE SECOND FORM's CARD OF 'laws.FnExactAppendChunk'. -/
def fnExactAppendChunkUptoCard : Claim7 := { stood := { row := fnExactAppendChunkUptoRow, standIns := [], harness := (true, "fd1eb37d4e3d446c65d8ea2903535243a1fa66abad73ba4c2d475e5617d3c320"), looks := true }, kinds := [], alts := [], laidByText := true, laidKinds := [.data], laidTests := true, laidLooks := .later }
def FnExactAppendChunkUptoCardSaid : Prop := Claim7.holds Tryd.pinned (.plain (OpenSpec.upto fnExactAppendChunkSpec)) fnExactAppendChunkUptoCard

/-- THE SECOND FORM's CARD OF 'laws.FnExactFillTemplate'. -/
def fnExactFillTemplateUptoCard : Claim7 := { stood := { row := fnExactFillTemplateUptoRow, standIns := [], harness := (true, "fd1eb37d4e3d446c65d8ea2903535243a1fa66abad73ba4c2d475e5617d3c320"), looks := true }, kinds := [], alts := [], laidByText := true, laidKinds := [.data, .data, .data], laidTests := true, laidLooks := .later }
def FnExactFillTemplateUptoCardSaid : Prop := Claim7.holds Tryd.pinned (.plain (OpenSpec.upto fnExactFillTemplateSpec)) fnExactFillTemplateUptoCard
end Rows
end Go.Proofs.YtcfcnnamjfgahaaDoor
