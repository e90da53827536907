/-
  DERIVED. GIVEN WITH THE SEED: THE CARDS: each row of YtjobchgncdgfaaaGreatDoorRows.lean that lists a variable, with what it lists TIED to the program's text (the seventh form; the later family's looks); each row that meets fmt, with fmt's text TOLD by the authors' own Lean function (tested against real Go, not proved from fmt's source: count such statements apart). THE CARD IS WHAT COUNTS. Prove the row's statement (the work); the ties are given (YtjobchgncdgfaaaGreatDoorTie.lean); close each card by the builder's one call (the guide's Derived/Test/ToyasCard.lean, 'card_holds'). Laid BY PROGRAM, IN A SANDBOX (cutbox-door.mjs). By AI agents, Wed Nov 11 2026. No macro, syntax, notation, axiom, sorry.
-/
import Derived.Test.YtjobchgncdgfaaaGreatDoorRows
import GoSem.ClaimSeven
namespace Go.Proofs.YtjobchgncdgfaaaGreatDoor
namespace Rows

/-- THE TIED CARD OF 'incipitlaw09.LinkReads'. -/
def linkReadsCard : Claim7 := { stood := { row := linkReadsRow, standIns := [], harness := (true, "4dea9e38ee2d3948121b6e36b9ef8829185147d2aaceb11f1c8b3f30fdd26b55"), looks := true }, kinds := [], alts := [], laidByText := true, laidKinds := [.data, .data, .data, .data, .sentinel, .sentinel, .pinned], laidTests := true, laidLooks := .later }
def LinkReadsCardSaid : Prop := Claim7.holds Tryz.pinned (.plain (OpenSpec.ofChange linkReadsSpec)) linkReadsCard

/-- THE TIED CARD OF 'incipitlaw09.LinkEnds'. -/
def linkEndsCard : Claim7 := { stood := { row := linkEndsRow, standIns := [], harness := (true, "4dea9e38ee2d3948121b6e36b9ef8829185147d2aaceb11f1c8b3f30fdd26b55"), looks := true }, kinds := [], alts := [], laidByText := true, laidKinds := [.data, .data, .data, .data, .sentinel, .sentinel, .pinned], laidTests := true, laidLooks := .later }
def LinkEndsCardSaid : Prop := Claim7.holds Tryz.pinned (.plain (OpenSpec.ofChange linkEndsSpec)) linkEndsCard

/-- THE TIED CARD OF 'incipitlaw09.LinkPlain'. -/
def linkPlainCard : Claim7 := { stood := { row := linkPlainRow, standIns := [], harness := (true, "4dea9e38ee2d3948121b6e36b9ef8829185147d2aaceb11f1c8b3f30fdd26b55"), looks := true }, kinds := [], alts := [], laidByText := true, laidKinds := [.data, .data, .data, .data, .sentinel, .sentinel, .pinned], laidTests := true, laidLooks := .later }
def LinkPlainCardSaid : Prop := Claim7.holds Tryz.pinned (.plain (OpenSpec.ofChange linkPlainSpec)) linkPlainCard

/-- THE TIED CARD OF 'incipitlaw09.LinkBlanks'. -/
def linkBlanksCard : Claim7 := { stood := { row := linkBlanksRow, standIns := [], harness := (true, "4dea9e38ee2d3948121b6e36b9ef8829185147d2aaceb11f1c8b3f30fdd26b55"), looks := true }, kinds := [], alts := [], laidByText := true, laidKinds := [.data, .data, .data, .data, .sentinel, .sentinel, .pinned], laidTests := true, laidLooks := .later }
def LinkBlanksCardSaid : Prop := Claim7.holds Tryz.pinned (.plain (OpenSpec.ofChange linkBlanksSpec)) linkBlanksCard

/-- THE TIED CARD OF 'incipitlaw09.LinkLabels'. -/
def linkLabelsCard : Claim7 := { stood := { row := linkLabelsRow, standIns := [], harness := (true, "4dea9e38ee2d3948121b6e36b9ef8829185147d2aaceb11f1c8b3f30fdd26b55"), looks := true }, kinds := [], alts := [], laidByText := true, laidKinds := [.data, .data, .data, .data, .sentinel, .sentinel, .pinned], laidTests := true, laidLooks := .later }
def LinkLabelsCardSaid : Prop := Claim7.holds Tryz.pinned (.plain (OpenSpec.ofChange linkLabelsSpec)) linkLabelsCard

/-- THE TIED CARD OF 'incipitlaw09.LinkNone'. -/
def linkNoneCard : Claim7 := { stood := { row := linkNoneRow, standIns := [], harness := (true, "4dea9e38ee2d3948121b6e36b9ef8829185147d2aaceb11f1c8b3f30fdd26b55"), looks := true }, kinds := [], alts := [], laidByText := true, laidKinds := [.data, .data, .data, .data, .sentinel, .sentinel, .pinned], laidTests := true, laidLooks := .later }
def LinkNoneCardSaid : Prop := Claim7.holds Tryz.pinned (.plain (OpenSpec.ofChange linkNoneSpec)) linkNoneCard

/-- THE SECOND FORM's CARD OF 'incipitlaw09.LinkReads'. -/
def linkReadsUptoCard : Claim7 := { stood := { row := linkReadsUptoRow, standIns := [], harness := (true, "4dea9e38ee2d3948121b6e36b9ef8829185147d2aaceb11f1c8b3f30fdd26b55"), looks := true }, kinds := [], alts := [], laidByText := true, laidKinds := [.data, .data, .data, .data, .sentinel, .sentinel, .pinned], laidTests := true, laidLooks := .later }
def LinkReadsUptoCardSaid : Prop := Claim7.holds Tryz.pinned (.plain (OpenSpec.upto linkReadsSpec)) linkReadsUptoCard

/-- THE SECOND FORM's CARD OF 'incipitlaw09.LinkEnds'. -/
def linkEndsUptoCard : Claim7 := { stood := { row := linkEndsUptoRow, standIns := [], harness := (true, "4dea9e38ee2d3948121b6e36b9ef8829185147d2aaceb11f1c8b3f30fdd26b55"), looks := true }, kinds := [], alts := [], laidByText := true, laidKinds := [.data, .data, .data, .data, .sentinel, .sentinel, .pinned], laidTests := true, laidLooks := .later }
def LinkEndsUptoCardSaid : Prop := Claim7.holds Tryz.pinned (.plain (OpenSpec.upto linkEndsSpec)) linkEndsUptoCard

/-- THE SECOND FORM's CARD OF 'incipitlaw09.LinkPlain'. -/
def linkPlainUptoCard : Claim7 := { stood := { row := linkPlainUptoRow, standIns := [], harness := (true, "4dea9e38ee2d3948121b6e36b9ef8829185147d2aaceb11f1c8b3f30fdd26b55"), looks := true }, kinds := [], alts := [], laidByText := true, laidKinds := [.data, .data, .data, .data, .sentinel, .sentinel, .pinned], laidTests := true, laidLooks := .later }
def LinkPlainUptoCardSaid : Prop := Claim7.holds Tryz.pinned (.plain (OpenSpec.upto linkPlainSpec)) linkPlainUptoCard

/-- THE SECOND FORM's CARD OF 'incipitlaw09.LinkBlanks'. -/
def linkBlanksUptoCard : Claim7 := { stood := { row := linkBlanksUptoRow, standIns := [], harness := (true, "4dea9e38ee2d3948121b6e36b9ef8829185147d2aaceb11f1c8b3f30fdd26b55"), looks := true }, kinds := [], alts := [], laidByText := true, laidKinds := [.data, .data, .data, .data, .sentinel, .sentinel, .pinned], laidTests := true, laidLooks := .later }
def LinkBlanksUptoCardSaid : Prop := Claim7.holds Tryz.pinned (.plain (OpenSpec.upto linkBlanksSpec)) linkBlanksUptoCard

/-- THE SECOND FORM's CARD OF 'incipitlaw09.LinkLabels'. -/
def linkLabelsUptoCard : Claim7 := { stood := { row := linkLabelsUptoRow, standIns := [], harness := (true, "4dea9e38ee2d3948121b6e36b9ef8829185147d2aaceb11f1c8b3f30fdd26b55"), looks := true }, kinds := [], alts := [], laidByText := true, laidKinds := [.data, .data, .data, .data, .sentinel, .sentinel, .pinned], laidTests := true, laidLooks := .later }
def LinkLabelsUptoCardSaid : Prop := Claim7.holds Tryz.pinned (.plain (OpenSpec.upto linkLabelsSpec)) linkLabelsUptoCard

/-- THE SECOND FORM's CARD OF 'incipitlaw09.LinkNone'. -/
def linkNoneUptoCard : Claim7 := { stood := { row := linkNoneUptoRow, standIns := [], harness := (true, "4dea9e38ee2d3948121b6e36b9ef8829185147d2aaceb11f1c8b3f30fdd26b55"), looks := true }, kinds := [], alts := [], laidByText := true, laidKinds := [.data, .data, .data, .data, .sentinel, .sentinel, .pinned], laidTests := true, laidLooks := .later }
def LinkNoneUptoCardSaid : Prop := Claim7.holds Tryz.pinned (.plain (OpenSpec.upto linkNoneSpec)) linkNoneUptoCard
end Rows
end Go.Proofs.YtjobchgncdgfaaaGreatDoor
