/-
  DERIVED. GIVEN WITH THE SEED: THE CARDS: each row of YtmkoooldekbpaaaDoorRows.lean that lists a variable, with what it lists TIED to the program's text (the seventh form; the later family's looks); each row that meets fmt, with fmt's text TOLD by the authors' own Lean function (tested against real Go, not proved from fmt's source: count such statements apart). THE CARD IS WHAT COUNTS. Prove the row's statement (the work); the ties are given (YtmkoooldekbpaaaDoorTie.lean); close each card by the builder's one call (the guide's Derived/Test/ToyasCard.lean, 'card_holds'). Laid BY PROGRAM, IN A SANDBOX (cutbox-door.mjs). By AI agents, Wed Nov 11 2026. No macro, syntax, notation, axiom, sorry.
-/
import Derived.Test.YtmkoooldekbpaaaDoorRows
import GoSem.ClaimSeven
namespace Go.Proofs.YtmkoooldekbpaaaDoor
namespace Rows

/-- THE TIED CARD OF 'incipitlaw04.EntityReads'. -/
def entityReadsCard : Claim7 := { stood := { row := entityReadsRow, standIns := [], harness := (true, "896f4b71679878df02f3e0fd7d8cfc8cbdc5495b779393cb418fdb498e9788a9"), looks := true }, kinds := [], alts := [], laidByText := true, laidKinds := [.data, .data, .data, .sentinel, .sentinel], laidTests := true, laidLooks := .later }
def EntityReadsCardSaid : Prop := Claim7.holds Tryd.pinned (.plain (OpenSpec.ofChange entityReadsSpec)) entityReadsCard

/-- THE TIED CARD OF 'incipitlaw04.EntityNumbers'. -/
def entityNumbersCard : Claim7 := { stood := { row := entityNumbersRow, standIns := [], harness := (true, "896f4b71679878df02f3e0fd7d8cfc8cbdc5495b779393cb418fdb498e9788a9"), looks := true }, kinds := [], alts := [], laidByText := true, laidKinds := [.data, .data, .data, .sentinel, .sentinel], laidTests := true, laidLooks := .later }
def EntityNumbersCardSaid : Prop := Claim7.holds Tryd.pinned (.plain (OpenSpec.ofChange entityNumbersSpec)) entityNumbersCard

/-- THE TIED CARD OF 'incipitlaw04.EntityEnds'. -/
def entityEndsCard : Claim7 := { stood := { row := entityEndsRow, standIns := [], harness := (true, "896f4b71679878df02f3e0fd7d8cfc8cbdc5495b779393cb418fdb498e9788a9"), looks := true }, kinds := [], alts := [], laidByText := true, laidKinds := [.data, .data, .data, .sentinel, .sentinel], laidTests := true, laidLooks := .later }
def EntityEndsCardSaid : Prop := Claim7.holds Tryd.pinned (.plain (OpenSpec.ofChange entityEndsSpec)) entityEndsCard

/-- THE TIED CARD OF 'incipitlaw04.EntityAll'. -/
def entityAllCard : Claim7 := { stood := { row := entityAllRow, standIns := [], harness := (true, "896f4b71679878df02f3e0fd7d8cfc8cbdc5495b779393cb418fdb498e9788a9"), looks := true }, kinds := [], alts := [], laidByText := true, laidKinds := [.data, .data, .data, .sentinel, .sentinel], laidTests := true, laidLooks := .later }
def EntityAllCardSaid : Prop := Claim7.holds Tryd.pinned (.plain (OpenSpec.ofChange entityAllSpec)) entityAllCard

/-- THE TIED CARD OF 'incipitlaw04.EntityNone'. -/
def entityNoneCard : Claim7 := { stood := { row := entityNoneRow, standIns := [], harness := (true, "896f4b71679878df02f3e0fd7d8cfc8cbdc5495b779393cb418fdb498e9788a9"), looks := true }, kinds := [], alts := [], laidByText := true, laidKinds := [.data, .data, .data, .sentinel, .sentinel], laidTests := true, laidLooks := .later }
def EntityNoneCardSaid : Prop := Claim7.holds Tryd.pinned (.plain (OpenSpec.ofChange entityNoneSpec)) entityNoneCard

/-- THE TIED CARD OF 'incipitlaw04.EntityNames'. -/
def entityNamesCard : Claim7 := { stood := { row := entityNamesRow, standIns := [], harness := (true, "896f4b71679878df02f3e0fd7d8cfc8cbdc5495b779393cb418fdb498e9788a9"), looks := true }, kinds := [], alts := [], laidByText := true, laidKinds := [.data, .data, .data, .sentinel, .sentinel], laidTests := true, laidLooks := .later }
def EntityNamesCardSaid : Prop := Claim7.holds Tryd.pinned (.plain (OpenSpec.ofChange entityNamesSpec)) entityNamesCard

/-- THE SECOND FORM's CARD OF 'incipitlaw04.EntityReads'. -/
def entityReadsUptoCard : Claim7 := { stood := { row := entityReadsUptoRow, standIns := [], harness := (true, "896f4b71679878df02f3e0fd7d8cfc8cbdc5495b779393cb418fdb498e9788a9"), looks := true }, kinds := [], alts := [], laidByText := true, laidKinds := [.data, .data, .data, .sentinel, .sentinel], laidTests := true, laidLooks := .later }
def EntityReadsUptoCardSaid : Prop := Claim7.holds Tryd.pinned (.plain (OpenSpec.upto entityReadsSpec)) entityReadsUptoCard

/-- THE SECOND FORM's CARD OF 'incipitlaw04.EntityNumbers'. -/
def entityNumbersUptoCard : Claim7 := { stood := { row := entityNumbersUptoRow, standIns := [], harness := (true, "896f4b71679878df02f3e0fd7d8cfc8cbdc5495b779393cb418fdb498e9788a9"), looks := true }, kinds := [], alts := [], laidByText := true, laidKinds := [.data, .data, .data, .sentinel, .sentinel], laidTests := true, laidLooks := .later }
def EntityNumbersUptoCardSaid : Prop := Claim7.holds Tryd.pinned (.plain (OpenSpec.upto entityNumbersSpec)) entityNumbersUptoCard

/-- THE SECOND FORM's CARD OF 'incipitlaw04.EntityEnds'. -/
def entityEndsUptoCard : Claim7 := { stood := { row := entityEndsUptoRow, standIns := [], harness := (true, "896f4b71679878df02f3e0fd7d8cfc8cbdc5495b779393cb418fdb498e9788a9"), looks := true }, kinds := [], alts := [], laidByText := true, laidKinds := [.data, .data, .data, .sentinel, .sentinel], laidTests := true, laidLooks := .later }
def EntityEndsUptoCardSaid : Prop := Claim7.holds Tryd.pinned (.plain (OpenSpec.upto entityEndsSpec)) entityEndsUptoCard

/-- THE SECOND FORM's CARD OF 'incipitlaw04.EntityAll'. -/
def entityAllUptoCard : Claim7 := { stood := { row := entityAllUptoRow, standIns := [], harness := (true, "896f4b71679878df02f3e0fd7d8cfc8cbdc5495b779393cb418fdb498e9788a9"), looks := true }, kinds := [], alts := [], laidByText := true, laidKinds := [.data, .data, .data, .sentinel, .sentinel], laidTests := true, laidLooks := .later }
def EntityAllUptoCardSaid : Prop := Claim7.holds Tryd.pinned (.plain (OpenSpec.upto entityAllSpec)) entityAllUptoCard

/-- THE SECOND FORM's CARD OF 'incipitlaw04.EntityNone'. -/
def entityNoneUptoCard : Claim7 := { stood := { row := entityNoneUptoRow, standIns := [], harness := (true, "896f4b71679878df02f3e0fd7d8cfc8cbdc5495b779393cb418fdb498e9788a9"), looks := true }, kinds := [], alts := [], laidByText := true, laidKinds := [.data, .data, .data, .sentinel, .sentinel], laidTests := true, laidLooks := .later }
def EntityNoneUptoCardSaid : Prop := Claim7.holds Tryd.pinned (.plain (OpenSpec.upto entityNoneSpec)) entityNoneUptoCard

/-- THE SECOND FORM's CARD OF 'incipitlaw04.EntityNames'. -/
def entityNamesUptoCard : Claim7 := { stood := { row := entityNamesUptoRow, standIns := [], harness := (true, "896f4b71679878df02f3e0fd7d8cfc8cbdc5495b779393cb418fdb498e9788a9"), looks := true }, kinds := [], alts := [], laidByText := true, laidKinds := [.data, .data, .data, .sentinel, .sentinel], laidTests := true, laidLooks := .later }
def EntityNamesUptoCardSaid : Prop := Claim7.holds Tryd.pinned (.plain (OpenSpec.upto entityNamesSpec)) entityNamesUptoCard
end Rows
end Go.Proofs.YtmkoooldekbpaaaDoor
