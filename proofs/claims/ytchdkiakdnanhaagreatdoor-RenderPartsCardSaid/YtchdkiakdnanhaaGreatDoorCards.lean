/-
  DERIVED. GIVEN WITH THE SEED: THE CARDS: each row of YtchdkiakdnanhaaGreatDoorRows.lean that lists a variable, with what it lists TIED to the program's text (the seventh form; the later family's looks); each row that meets fmt, with fmt's text TOLD by the authors' own Lean function (tested against real Go, not proved from fmt's source: count such statements apart). THE CARD IS WHAT COUNTS. Prove the row's statement (the work); the ties are given (YtchdkiakdnanhaaGreatDoorTie.lean); close each card by the builder's one call (the guide's Derived/Test/ToyasCard.lean, 'card_holds'). Laid BY PROGRAM, IN A SANDBOX (cutbox-door.mjs). By AI agents, Wed Nov 11 2026. No macro, syntax, notation, axiom, sorry.
-/
import Derived.Test.YtchdkiakdnanhaaGreatDoorRows
import GoSem.ClaimSeven
namespace Go.Proofs.YtchdkiakdnanhaaGreatDoor
namespace Rows

/-- THE TIED CARD OF 'incipitlaw20.RenderFilters'. -/
def renderFiltersCard : Claim7 := { stood := { row := renderFiltersRow, standIns := [], harness := (true, "ad27b6b7af59ebc73d93b192cda5bb2fcd686d23db8a5f5df307218724282ad0"), looks := true }, kinds := [], alts := [], laidByText := true, laidKinds := [.data, .data, .data], laidTests := true, laidLooks := .later }
def RenderFiltersCardSaid : Prop := Claim7.holds Tryz.pinned (.plain (OpenSpec.ofChange renderFiltersSpec)) renderFiltersCard

/-- THE TIED CARD OF 'incipitlaw20.RenderSafe'. -/
def renderSafeCard : Claim7 := { stood := { row := renderSafeRow, standIns := [], harness := (true, "ad27b6b7af59ebc73d93b192cda5bb2fcd686d23db8a5f5df307218724282ad0"), looks := true }, kinds := [], alts := [], laidByText := true, laidKinds := [.data, .data, .data], laidTests := true, laidLooks := .later }
def RenderSafeCardSaid : Prop := Claim7.holds Tryz.pinned (.plain (OpenSpec.ofChange renderSafeSpec)) renderSafeCard

/-- THE TIED CARD OF 'incipitlaw20.RenderParts'. -/
def renderPartsCard : Claim7 := { stood := { row := renderPartsRow, standIns := [], harness := (true, "ad27b6b7af59ebc73d93b192cda5bb2fcd686d23db8a5f5df307218724282ad0"), looks := true }, kinds := [], alts := [], laidByText := true, laidKinds := [.data, .data, .data], laidTests := true, laidLooks := .later }
def RenderPartsCardSaid : Prop := Claim7.holds Tryz.pinned (.plain (OpenSpec.ofChange renderPartsSpec)) renderPartsCard

/-- THE TIED CARD OF 'incipitlaw20.RenderWraps'. -/
def renderWrapsCard : Claim7 := { stood := { row := renderWrapsRow, standIns := [], harness := (true, "ad27b6b7af59ebc73d93b192cda5bb2fcd686d23db8a5f5df307218724282ad0"), looks := true }, kinds := [], alts := [], laidByText := true, laidKinds := [.data, .data, .data], laidTests := true, laidLooks := .later }
def RenderWrapsCardSaid : Prop := Claim7.holds Tryz.pinned (.plain (OpenSpec.ofChange renderWrapsSpec)) renderWrapsCard

/-- THE SECOND FORM's CARD OF 'incipitlaw20.RenderFilters'. -/
def renderFiltersUptoCard : Claim7 := { stood := { row := renderFiltersUptoRow, standIns := [], harness := (true, "ad27b6b7af59ebc73d93b192cda5bb2fcd686d23db8a5f5df307218724282ad0"), looks := true }, kinds := [], alts := [], laidByText := true, laidKinds := [.data, .data, .data], laidTests := true, laidLooks := .later }
def RenderFiltersUptoCardSaid : Prop := Claim7.holds Tryz.pinned (.plain (OpenSpec.upto renderFiltersSpec)) renderFiltersUptoCard

/-- THE SECOND FORM's CARD OF 'incipitlaw20.RenderSafe'. -/
def renderSafeUptoCard : Claim7 := { stood := { row := renderSafeUptoRow, standIns := [], harness := (true, "ad27b6b7af59ebc73d93b192cda5bb2fcd686d23db8a5f5df307218724282ad0"), looks := true }, kinds := [], alts := [], laidByText := true, laidKinds := [.data, .data, .data], laidTests := true, laidLooks := .later }
def RenderSafeUptoCardSaid : Prop := Claim7.holds Tryz.pinned (.plain (OpenSpec.upto renderSafeSpec)) renderSafeUptoCard

/-- THE SECOND FORM's CARD OF 'incipitlaw20.RenderParts'. -/
def renderPartsUptoCard : Claim7 := { stood := { row := renderPartsUptoRow, standIns := [], harness := (true, "ad27b6b7af59ebc73d93b192cda5bb2fcd686d23db8a5f5df307218724282ad0"), looks := true }, kinds := [], alts := [], laidByText := true, laidKinds := [.data, .data, .data], laidTests := true, laidLooks := .later }
def RenderPartsUptoCardSaid : Prop := Claim7.holds Tryz.pinned (.plain (OpenSpec.upto renderPartsSpec)) renderPartsUptoCard

/-- THE SECOND FORM's CARD OF 'incipitlaw20.RenderWraps'. -/
def renderWrapsUptoCard : Claim7 := { stood := { row := renderWrapsUptoRow, standIns := [], harness := (true, "ad27b6b7af59ebc73d93b192cda5bb2fcd686d23db8a5f5df307218724282ad0"), looks := true }, kinds := [], alts := [], laidByText := true, laidKinds := [.data, .data, .data], laidTests := true, laidLooks := .later }
def RenderWrapsUptoCardSaid : Prop := Claim7.holds Tryz.pinned (.plain (OpenSpec.upto renderWrapsSpec)) renderWrapsUptoCard
end Rows
end Go.Proofs.YtchdkiakdnanhaaGreatDoor
