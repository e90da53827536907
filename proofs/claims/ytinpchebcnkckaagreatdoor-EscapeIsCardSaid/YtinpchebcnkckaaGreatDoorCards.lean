/-
  DERIVED. GIVEN WITH THE SEED: THE CARDS: each row of YtinpchebcnkckaaGreatDoorRows.lean that lists a variable, with what it lists TIED to the program's text (the seventh form; the later family's looks); each row that meets fmt, with fmt's text TOLD by the authors' own Lean function (tested against real Go, not proved from fmt's source: count such statements apart). THE CARD IS WHAT COUNTS. Prove the row's statement (the work); the ties are given (YtinpchebcnkckaaGreatDoorTie.lean); close each card by the builder's one call (the guide's Derived/Test/ToyasCard.lean, 'card_holds'). Laid BY PROGRAM, IN A SANDBOX (cutbox-door.mjs). By AI agents, Wed Nov 11 2026. No macro, syntax, notation, axiom, sorry.
-/
import Derived.Test.YtinpchebcnkckaaGreatDoorRows
import GoSem.ClaimSeven
namespace Go.Proofs.YtinpchebcnkckaaGreatDoor
namespace Rows

/-- THE TIED CARD OF 'incipitlaw05.EscapeIs'. -/
def escapeIsCard : Claim7 := { stood := { row := escapeIsRow, standIns := [], harness := (true, "344709ed4203a1be39d4a033f57eff633ff3c1827e50ddf09c3db378398d0466"), looks := true }, kinds := [], alts := [], laidByText := true, laidKinds := [.data, .data, .data, .sentinel, .sentinel], laidTests := true, laidLooks := .later }
def EscapeIsCardSaid : Prop := Claim7.holds Tryz.pinned (.plain (OpenSpec.ofChange escapeIsSpec)) escapeIsCard

/-- THE TIED CARD OF 'incipitlaw05.EscapeSafe'. -/
def escapeSafeCard : Claim7 := { stood := { row := escapeSafeRow, standIns := [], harness := (true, "344709ed4203a1be39d4a033f57eff633ff3c1827e50ddf09c3db378398d0466"), looks := true }, kinds := [], alts := [], laidByText := true, laidKinds := [.data, .data, .data, .sentinel, .sentinel], laidTests := true, laidLooks := .later }
def EscapeSafeCardSaid : Prop := Claim7.holds Tryz.pinned (.plain (OpenSpec.ofChange escapeSafeSpec)) escapeSafeCard

/-- THE TIED CARD OF 'incipitlaw05.EscapeBack'. -/
def escapeBackCard : Claim7 := { stood := { row := escapeBackRow, standIns := [], harness := (true, "344709ed4203a1be39d4a033f57eff633ff3c1827e50ddf09c3db378398d0466"), looks := true }, kinds := [], alts := [], laidByText := true, laidKinds := [.data, .data, .data, .sentinel, .sentinel], laidTests := true, laidLooks := .later }
def EscapeBackCardSaid : Prop := Claim7.holds Tryz.pinned (.plain (OpenSpec.ofChange escapeBackSpec)) escapeBackCard

/-- THE TIED CARD OF 'incipitlaw05.EscapeSigns'. -/
def escapeSignsCard : Claim7 := { stood := { row := escapeSignsRow, standIns := [], harness := (true, "344709ed4203a1be39d4a033f57eff633ff3c1827e50ddf09c3db378398d0466"), looks := true }, kinds := [], alts := [], laidByText := true, laidKinds := [.data, .data, .data, .sentinel, .sentinel], laidTests := true, laidLooks := .later }
def EscapeSignsCardSaid : Prop := Claim7.holds Tryz.pinned (.plain (OpenSpec.ofChange escapeSignsSpec)) escapeSignsCard

/-- THE TIED CARD OF 'incipitlaw05.EscapeParts'. -/
def escapePartsCard : Claim7 := { stood := { row := escapePartsRow, standIns := [], harness := (true, "344709ed4203a1be39d4a033f57eff633ff3c1827e50ddf09c3db378398d0466"), looks := true }, kinds := [], alts := [], laidByText := true, laidKinds := [.data, .data, .data, .sentinel, .sentinel], laidTests := true, laidLooks := .later }
def EscapePartsCardSaid : Prop := Claim7.holds Tryz.pinned (.plain (OpenSpec.ofChange escapePartsSpec)) escapePartsCard

/-- THE TIED CARD OF 'incipitlaw05.EscapePlain'. -/
def escapePlainCard : Claim7 := { stood := { row := escapePlainRow, standIns := [], harness := (true, "344709ed4203a1be39d4a033f57eff633ff3c1827e50ddf09c3db378398d0466"), looks := true }, kinds := [], alts := [], laidByText := true, laidKinds := [.data, .data, .data, .sentinel, .sentinel], laidTests := true, laidLooks := .later }
def EscapePlainCardSaid : Prop := Claim7.holds Tryz.pinned (.plain (OpenSpec.ofChange escapePlainSpec)) escapePlainCard

/-- THE TIED CARD OF 'incipitlaw05.EscapeCuts'. -/
def escapeCutsCard : Claim7 := { stood := { row := escapeCutsRow, standIns := [], harness := (true, "344709ed4203a1be39d4a033f57eff633ff3c1827e50ddf09c3db378398d0466"), looks := true }, kinds := [], alts := [], laidByText := true, laidKinds := [.data, .data, .data, .sentinel, .sentinel], laidTests := true, laidLooks := .later }
def EscapeCutsCardSaid : Prop := Claim7.holds Tryz.pinned (.plain (OpenSpec.ofChange escapeCutsSpec)) escapeCutsCard

/-- THE SECOND FORM's CARD OF 'incipitlaw05.EscapeIs'. -/
def escapeIsUptoCard : Claim7 := { stood := { row := escapeIsUptoRow, standIns := [], harness := (true, "344709ed4203a1be39d4a033f57eff633ff3c1827e50ddf09c3db378398d0466"), looks := true }, kinds := [], alts := [], laidByText := true, laidKinds := [.data, .data, .data, .sentinel, .sentinel], laidTests := true, laidLooks := .later }
def EscapeIsUptoCardSaid : Prop := Claim7.holds Tryz.pinned (.plain (OpenSpec.upto escapeIsSpec)) escapeIsUptoCard

/-- THE SECOND FORM's CARD OF 'incipitlaw05.EscapeSafe'. -/
def escapeSafeUptoCard : Claim7 := { stood := { row := escapeSafeUptoRow, standIns := [], harness := (true, "344709ed4203a1be39d4a033f57eff633ff3c1827e50ddf09c3db378398d0466"), looks := true }, kinds := [], alts := [], laidByText := true, laidKinds := [.data, .data, .data, .sentinel, .sentinel], laidTests := true, laidLooks := .later }
def EscapeSafeUptoCardSaid : Prop := Claim7.holds Tryz.pinned (.plain (OpenSpec.upto escapeSafeSpec)) escapeSafeUptoCard

/-- THE SECOND FORM's CARD OF 'incipitlaw05.EscapeBack'. -/
def escapeBackUptoCard : Claim7 := { stood := { row := escapeBackUptoRow, standIns := [], harness := (true, "344709ed4203a1be39d4a033f57eff633ff3c1827e50ddf09c3db378398d0466"), looks := true }, kinds := [], alts := [], laidByText := true, laidKinds := [.data, .data, .data, .sentinel, .sentinel], laidTests := true, laidLooks := .later }
def EscapeBackUptoCardSaid : Prop := Claim7.holds Tryz.pinned (.plain (OpenSpec.upto escapeBackSpec)) escapeBackUptoCard

/-- THE SECOND FORM's CARD OF 'incipitlaw05.EscapeSigns'. -/
def escapeSignsUptoCard : Claim7 := { stood := { row := escapeSignsUptoRow, standIns := [], harness := (true, "344709ed4203a1be39d4a033f57eff633ff3c1827e50ddf09c3db378398d0466"), looks := true }, kinds := [], alts := [], laidByText := true, laidKinds := [.data, .data, .data, .sentinel, .sentinel], laidTests := true, laidLooks := .later }
def EscapeSignsUptoCardSaid : Prop := Claim7.holds Tryz.pinned (.plain (OpenSpec.upto escapeSignsSpec)) escapeSignsUptoCard

/-- THE SECOND FORM's CARD OF 'incipitlaw05.EscapeParts'. -/
def escapePartsUptoCard : Claim7 := { stood := { row := escapePartsUptoRow, standIns := [], harness := (true, "344709ed4203a1be39d4a033f57eff633ff3c1827e50ddf09c3db378398d0466"), looks := true }, kinds := [], alts := [], laidByText := true, laidKinds := [.data, .data, .data, .sentinel, .sentinel], laidTests := true, laidLooks := .later }
def EscapePartsUptoCardSaid : Prop := Claim7.holds Tryz.pinned (.plain (OpenSpec.upto escapePartsSpec)) escapePartsUptoCard

/-- THE SECOND FORM's CARD OF 'incipitlaw05.EscapePlain'. -/
def escapePlainUptoCard : Claim7 := { stood := { row := escapePlainUptoRow, standIns := [], harness := (true, "344709ed4203a1be39d4a033f57eff633ff3c1827e50ddf09c3db378398d0466"), looks := true }, kinds := [], alts := [], laidByText := true, laidKinds := [.data, .data, .data, .sentinel, .sentinel], laidTests := true, laidLooks := .later }
def EscapePlainUptoCardSaid : Prop := Claim7.holds Tryz.pinned (.plain (OpenSpec.upto escapePlainSpec)) escapePlainUptoCard

/-- THE SECOND FORM's CARD OF 'incipitlaw05.EscapeCuts'. -/
def escapeCutsUptoCard : Claim7 := { stood := { row := escapeCutsUptoRow, standIns := [], harness := (true, "344709ed4203a1be39d4a033f57eff633ff3c1827e50ddf09c3db378398d0466"), looks := true }, kinds := [], alts := [], laidByText := true, laidKinds := [.data, .data, .data, .sentinel, .sentinel], laidTests := true, laidLooks := .later }
def EscapeCutsUptoCardSaid : Prop := Claim7.holds Tryz.pinned (.plain (OpenSpec.upto escapeCutsSpec)) escapeCutsUptoCard
end Rows
end Go.Proofs.YtinpchebcnkckaaGreatDoor
