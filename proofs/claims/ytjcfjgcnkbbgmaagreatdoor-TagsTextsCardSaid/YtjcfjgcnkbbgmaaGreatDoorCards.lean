/-
  DERIVED. GIVEN WITH THE SEED: THE CARDS: each row of YtjcfjgcnkbbgmaaGreatDoorRows.lean that lists a variable, with what it lists TIED to the program's text (the seventh form; the later family's looks); each row that meets fmt, with fmt's text TOLD by the authors' own Lean function (tested against real Go, not proved from fmt's source: count such statements apart). THE CARD IS WHAT COUNTS. Prove the row's statement (the work); the ties are given (YtjcfjgcnkbbgmaaGreatDoorTie.lean); close each card by the builder's one call (the guide's Derived/Test/ToyasCard.lean, 'card_holds'). Laid BY PROGRAM, IN A SANDBOX (cutbox-door.mjs). By AI agents, Wed Nov 11 2026. No macro, syntax, notation, axiom, sorry.
-/
import Derived.Test.YtjcfjgcnkbbgmaaGreatDoorRows
import GoSem.ClaimSeven
namespace Go.Proofs.YtjcfjgcnkbbgmaaGreatDoor
namespace Rows

/-- THE TIED CARD OF 'incipitlaw21.TagsTexts'. -/
def tagsTextsCard : Claim7 := { stood := { row := tagsTextsRow, standIns := [], harness := (true, "c00c0d1da5fc77ae98bea4d8a684ad54e024a91d3759f8e6cc0290f6a88066b3"), looks := true }, kinds := [], alts := [], laidByText := true, laidKinds := [.data, .data, .data], laidTests := true, laidLooks := .later }
def TagsTextsCardSaid : Prop := Claim7.holds Tryz.pinned (.plain (OpenSpec.ofChange tagsTextsSpec)) tagsTextsCard

/-- THE SECOND FORM's CARD OF 'incipitlaw21.TagsTexts'. -/
def tagsTextsUptoCard : Claim7 := { stood := { row := tagsTextsUptoRow, standIns := [], harness := (true, "c00c0d1da5fc77ae98bea4d8a684ad54e024a91d3759f8e6cc0290f6a88066b3"), looks := true }, kinds := [], alts := [], laidByText := true, laidKinds := [.data, .data, .data], laidTests := true, laidLooks := .later }
def TagsTextsUptoCardSaid : Prop := Claim7.holds Tryz.pinned (.plain (OpenSpec.upto tagsTextsSpec)) tagsTextsUptoCard
end Rows
end Go.Proofs.YtjcfjgcnkbbgmaaGreatDoor
