/-
  DERIVED. GIVEN WITH THE SEED: THE CARDS: each row of YtekifcbokdidlaaGreatDoorRows.lean that lists a variable, with what it lists TIED to the program's text (the seventh form; the later family's looks); each row that meets fmt, with fmt's text TOLD by the authors' own Lean function (tested against real Go, not proved from fmt's source: count such statements apart). THE CARD IS WHAT COUNTS. Prove the row's statement (the work); the ties are given (YtekifcbokdidlaaGreatDoorTie.lean); close each card by the builder's one call (the guide's Derived/Test/ToyasCard.lean, 'card_holds'). Laid BY PROGRAM, IN A SANDBOX (cutbox-door.mjs). By AI agents, Wed Nov 11 2026. No macro, syntax, notation, axiom, sorry.
-/
import Derived.Test.YtekifcbokdidlaaGreatDoorRows
import GoSem.ClaimSeven
namespace Go.Proofs.YtekifcbokdidlaaGreatDoor
namespace Rows

/-- THE TIED CARD OF 'incipitlaw10.RefsFinds'. -/
def refsFindsCard : Claim7 := { stood := { row := refsFindsRow, standIns := [], harness := (true, "13dd33931da120b3b04fbb9ec30e0818e38fe2a7522020f42bf3c79f0da3dae6"), looks := true }, kinds := [], alts := [], laidByText := true, laidKinds := [.data, .data, .data, .data, .sentinel, .sentinel, .pinned], laidTests := true, laidLooks := .later }
def RefsFindsCardSaid : Prop := Claim7.holds Tryz.pinned (.plain (OpenSpec.ofChange refsFindsSpec)) refsFindsCard

/-- THE TIED CARD OF 'incipitlaw10.RefsFirst'. -/
def refsFirstCard : Claim7 := { stood := { row := refsFirstRow, standIns := [], harness := (true, "13dd33931da120b3b04fbb9ec30e0818e38fe2a7522020f42bf3c79f0da3dae6"), looks := true }, kinds := [], alts := [], laidByText := true, laidKinds := [.data, .data, .data, .data, .sentinel, .sentinel, .pinned], laidTests := true, laidLooks := .later }
def RefsFirstCardSaid : Prop := Claim7.holds Tryz.pinned (.plain (OpenSpec.ofChange refsFirstSpec)) refsFirstCard

/-- THE TIED CARD OF 'incipitlaw10.RefsTakes'. -/
def refsTakesCard : Claim7 := { stood := { row := refsTakesRow, standIns := [], harness := (true, "13dd33931da120b3b04fbb9ec30e0818e38fe2a7522020f42bf3c79f0da3dae6"), looks := true }, kinds := [], alts := [], laidByText := true, laidKinds := [.data, .data, .data, .data, .sentinel, .sentinel, .pinned], laidTests := true, laidLooks := .later }
def RefsTakesCardSaid : Prop := Claim7.holds Tryz.pinned (.plain (OpenSpec.ofChange refsTakesSpec)) refsTakesCard

/-- THE TIED CARD OF 'incipitlaw10.RefsRest'. -/
def refsRestCard : Claim7 := { stood := { row := refsRestRow, standIns := [], harness := (true, "13dd33931da120b3b04fbb9ec30e0818e38fe2a7522020f42bf3c79f0da3dae6"), looks := true }, kinds := [], alts := [], laidByText := true, laidKinds := [.data, .data, .data, .data, .sentinel, .sentinel, .pinned], laidTests := true, laidLooks := .later }
def RefsRestCardSaid : Prop := Claim7.holds Tryz.pinned (.plain (OpenSpec.ofChange refsRestSpec)) refsRestCard

/-- THE TIED CARD OF 'incipitlaw10.RefsPlain'. -/
def refsPlainCard : Claim7 := { stood := { row := refsPlainRow, standIns := [], harness := (true, "13dd33931da120b3b04fbb9ec30e0818e38fe2a7522020f42bf3c79f0da3dae6"), looks := true }, kinds := [], alts := [], laidByText := true, laidKinds := [.data, .data, .data, .data, .sentinel, .sentinel, .pinned], laidTests := true, laidLooks := .later }
def RefsPlainCardSaid : Prop := Claim7.holds Tryz.pinned (.plain (OpenSpec.ofChange refsPlainSpec)) refsPlainCard

/-- THE SECOND FORM's CARD OF 'incipitlaw10.RefsFinds'. -/
def refsFindsUptoCard : Claim7 := { stood := { row := refsFindsUptoRow, standIns := [], harness := (true, "13dd33931da120b3b04fbb9ec30e0818e38fe2a7522020f42bf3c79f0da3dae6"), looks := true }, kinds := [], alts := [], laidByText := true, laidKinds := [.data, .data, .data, .data, .sentinel, .sentinel, .pinned], laidTests := true, laidLooks := .later }
def RefsFindsUptoCardSaid : Prop := Claim7.holds Tryz.pinned (.plain (OpenSpec.upto refsFindsSpec)) refsFindsUptoCard

/-- THE SECOND FORM's CARD OF 'incipitlaw10.RefsFirst'. -/
def refsFirstUptoCard : Claim7 := { stood := { row := refsFirstUptoRow, standIns := [], harness := (true, "13dd33931da120b3b04fbb9ec30e0818e38fe2a7522020f42bf3c79f0da3dae6"), looks := true }, kinds := [], alts := [], laidByText := true, laidKinds := [.data, .data, .data, .data, .sentinel, .sentinel, .pinned], laidTests := true, laidLooks := .later }
def RefsFirstUptoCardSaid : Prop := Claim7.holds Tryz.pinned (.plain (OpenSpec.upto refsFirstSpec)) refsFirstUptoCard

/-- THE SECOND FORM's CARD OF 'incipitlaw10.RefsTakes'. -/
def refsTakesUptoCard : Claim7 := { stood := { row := refsTakesUptoRow, standIns := [], harness := (true, "13dd33931da120b3b04fbb9ec30e0818e38fe2a7522020f42bf3c79f0da3dae6"), looks := true }, kinds := [], alts := [], laidByText := true, laidKinds := [.data, .data, .data, .data, .sentinel, .sentinel, .pinned], laidTests := true, laidLooks := .later }
def RefsTakesUptoCardSaid : Prop := Claim7.holds Tryz.pinned (.plain (OpenSpec.upto refsTakesSpec)) refsTakesUptoCard

/-- THE SECOND FORM's CARD OF 'incipitlaw10.RefsRest'. -/
def refsRestUptoCard : Claim7 := { stood := { row := refsRestUptoRow, standIns := [], harness := (true, "13dd33931da120b3b04fbb9ec30e0818e38fe2a7522020f42bf3c79f0da3dae6"), looks := true }, kinds := [], alts := [], laidByText := true, laidKinds := [.data, .data, .data, .data, .sentinel, .sentinel, .pinned], laidTests := true, laidLooks := .later }
def RefsRestUptoCardSaid : Prop := Claim7.holds Tryz.pinned (.plain (OpenSpec.upto refsRestSpec)) refsRestUptoCard

/-- THE SECOND FORM's CARD OF 'incipitlaw10.RefsPlain'. -/
def refsPlainUptoCard : Claim7 := { stood := { row := refsPlainUptoRow, standIns := [], harness := (true, "13dd33931da120b3b04fbb9ec30e0818e38fe2a7522020f42bf3c79f0da3dae6"), looks := true }, kinds := [], alts := [], laidByText := true, laidKinds := [.data, .data, .data, .data, .sentinel, .sentinel, .pinned], laidTests := true, laidLooks := .later }
def RefsPlainUptoCardSaid : Prop := Claim7.holds Tryz.pinned (.plain (OpenSpec.upto refsPlainSpec)) refsPlainUptoCard
end Rows
end Go.Proofs.YtekifcbokdidlaaGreatDoor
