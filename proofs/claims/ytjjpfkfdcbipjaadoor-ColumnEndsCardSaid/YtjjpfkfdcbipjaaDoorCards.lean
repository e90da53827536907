/-
  DERIVED. GIVEN WITH THE SEED: THE CARDS: each row of YtjjpfkfdcbipjaaDoorRows.lean that lists a variable, with what it lists TIED to the program's text (the seventh form; the later family's looks); each row that meets fmt, with fmt's text TOLD by the authors' own Lean function (tested against real Go, not proved from fmt's source: count such statements apart). THE CARD IS WHAT COUNTS. Prove the row's statement (the work); the ties are given (YtjjpfkfdcbipjaaDoorTie.lean); close each card by the builder's one call (the guide's Derived/Test/ToyasCard.lean, 'card_holds'). Laid BY PROGRAM, IN A SANDBOX (cutbox-door.mjs). By AI agents, Wed Nov 11 2026. No macro, syntax, notation, axiom, sorry.
-/
import Derived.Test.YtjjpfkfdcbipjaaDoorRows
import GoSem.ClaimSeven
namespace Go.Proofs.YtjjpfkfdcbipjaaDoor
namespace Rows

/-- THE TIED CARD OF 'incipitlaw02.ColumnLess'. -/
def columnLessCard : Claim7 := { stood := { row := columnLessRow, standIns := [], harness := (true, "15483e07bee4efd5cc10121c9fc6b2c67258456ad3aa0b34ba808eef2a35c94d"), looks := false }, kinds := [], alts := [], laidByText := true, laidKinds := [.data, .pinned], laidTests := true, laidLooks := .later }
def ColumnLessCardSaid : Prop := Claim7.holds Tryd.pinned (.plain (OpenSpec.ofChange columnLessSpec)) columnLessCard

/-- THE TIED CARD OF 'incipitlaw02.ColumnSteps'. -/
def columnStepsCard : Claim7 := { stood := { row := columnStepsRow, standIns := [], harness := (true, "15483e07bee4efd5cc10121c9fc6b2c67258456ad3aa0b34ba808eef2a35c94d"), looks := false }, kinds := [], alts := [], laidByText := true, laidKinds := [.data, .pinned], laidTests := true, laidLooks := .later }
def ColumnStepsCardSaid : Prop := Claim7.holds Tryd.pinned (.plain (OpenSpec.ofChange columnStepsSpec)) columnStepsCard

/-- THE TIED CARD OF 'incipitlaw02.ColumnSpaces'. -/
def columnSpacesCard : Claim7 := { stood := { row := columnSpacesRow, standIns := [], harness := (true, "15483e07bee4efd5cc10121c9fc6b2c67258456ad3aa0b34ba808eef2a35c94d"), looks := false }, kinds := [], alts := [], laidByText := true, laidKinds := [.data, .pinned], laidTests := true, laidLooks := .later }
def ColumnSpacesCardSaid : Prop := Claim7.holds Tryd.pinned (.plain (OpenSpec.ofChange columnSpacesSpec)) columnSpacesCard

/-- THE TIED CARD OF 'incipitlaw02.ColumnTabs'. -/
def columnTabsCard : Claim7 := { stood := { row := columnTabsRow, standIns := [], harness := (true, "15483e07bee4efd5cc10121c9fc6b2c67258456ad3aa0b34ba808eef2a35c94d"), looks := false }, kinds := [], alts := [], laidByText := true, laidKinds := [.data, .pinned], laidTests := true, laidLooks := .later }
def ColumnTabsCardSaid : Prop := Claim7.holds Tryd.pinned (.plain (OpenSpec.ofChange columnTabsSpec)) columnTabsCard

/-- THE TIED CARD OF 'incipitlaw02.ColumnTrims'. -/
def columnTrimsCard : Claim7 := { stood := { row := columnTrimsRow, standIns := [], harness := (true, "15483e07bee4efd5cc10121c9fc6b2c67258456ad3aa0b34ba808eef2a35c94d"), looks := false }, kinds := [], alts := [], laidByText := true, laidKinds := [.data, .pinned], laidTests := true, laidLooks := .later }
def ColumnTrimsCardSaid : Prop := Claim7.holds Tryd.pinned (.plain (OpenSpec.ofChange columnTrimsSpec)) columnTrimsCard

/-- THE TIED CARD OF 'incipitlaw02.ColumnEnds'. -/
def columnEndsCard : Claim7 := { stood := { row := columnEndsRow, standIns := [], harness := (true, "15483e07bee4efd5cc10121c9fc6b2c67258456ad3aa0b34ba808eef2a35c94d"), looks := false }, kinds := [], alts := [], laidByText := true, laidKinds := [.data, .pinned], laidTests := true, laidLooks := .later }
def ColumnEndsCardSaid : Prop := Claim7.holds Tryd.pinned (.plain (OpenSpec.ofChange columnEndsSpec)) columnEndsCard

/-- THE SECOND FORM's CARD OF 'incipitlaw02.ColumnLess'. -/
def columnLessUptoCard : Claim7 := { stood := { row := columnLessUptoRow, standIns := [], harness := (true, "15483e07bee4efd5cc10121c9fc6b2c67258456ad3aa0b34ba808eef2a35c94d"), looks := false }, kinds := [], alts := [], laidByText := true, laidKinds := [.data, .pinned], laidTests := true, laidLooks := .later }
def ColumnLessUptoCardSaid : Prop := Claim7.holds Tryd.pinned (.plain (OpenSpec.upto columnLessSpec)) columnLessUptoCard

/-- THE SECOND FORM's CARD OF 'incipitlaw02.ColumnSteps'. -/
def columnStepsUptoCard : Claim7 := { stood := { row := columnStepsUptoRow, standIns := [], harness := (true, "15483e07bee4efd5cc10121c9fc6b2c67258456ad3aa0b34ba808eef2a35c94d"), looks := false }, kinds := [], alts := [], laidByText := true, laidKinds := [.data, .pinned], laidTests := true, laidLooks := .later }
def ColumnStepsUptoCardSaid : Prop := Claim7.holds Tryd.pinned (.plain (OpenSpec.upto columnStepsSpec)) columnStepsUptoCard

/-- THE SECOND FORM's CARD OF 'incipitlaw02.ColumnSpaces'. -/
def columnSpacesUptoCard : Claim7 := { stood := { row := columnSpacesUptoRow, standIns := [], harness := (true, "15483e07bee4efd5cc10121c9fc6b2c67258456ad3aa0b34ba808eef2a35c94d"), looks := false }, kinds := [], alts := [], laidByText := true, laidKinds := [.data, .pinned], laidTests := true, laidLooks := .later }
def ColumnSpacesUptoCardSaid : Prop := Claim7.holds Tryd.pinned (.plain (OpenSpec.upto columnSpacesSpec)) columnSpacesUptoCard

/-- THE SECOND FORM's CARD OF 'incipitlaw02.ColumnTabs'. -/
def columnTabsUptoCard : Claim7 := { stood := { row := columnTabsUptoRow, standIns := [], harness := (true, "15483e07bee4efd5cc10121c9fc6b2c67258456ad3aa0b34ba808eef2a35c94d"), looks := false }, kinds := [], alts := [], laidByText := true, laidKinds := [.data, .pinned], laidTests := true, laidLooks := .later }
def ColumnTabsUptoCardSaid : Prop := Claim7.holds Tryd.pinned (.plain (OpenSpec.upto columnTabsSpec)) columnTabsUptoCard

/-- THE SECOND FORM's CARD OF 'incipitlaw02.ColumnTrims'. -/
def columnTrimsUptoCard : Claim7 := { stood := { row := columnTrimsUptoRow, standIns := [], harness := (true, "15483e07bee4efd5cc10121c9fc6b2c67258456ad3aa0b34ba808eef2a35c94d"), looks := false }, kinds := [], alts := [], laidByText := true, laidKinds := [.data, .pinned], laidTests := true, laidLooks := .later }
def ColumnTrimsUptoCardSaid : Prop := Claim7.holds Tryd.pinned (.plain (OpenSpec.upto columnTrimsSpec)) columnTrimsUptoCard

/-- THE SECOND FORM's CARD OF 'incipitlaw02.ColumnEnds'. -/
def columnEndsUptoCard : Claim7 := { stood := { row := columnEndsUptoRow, standIns := [], harness := (true, "15483e07bee4efd5cc10121c9fc6b2c67258456ad3aa0b34ba808eef2a35c94d"), looks := false }, kinds := [], alts := [], laidByText := true, laidKinds := [.data, .pinned], laidTests := true, laidLooks := .later }
def ColumnEndsUptoCardSaid : Prop := Claim7.holds Tryd.pinned (.plain (OpenSpec.upto columnEndsSpec)) columnEndsUptoCard
end Rows
end Go.Proofs.YtjjpfkfdcbipjaaDoor
