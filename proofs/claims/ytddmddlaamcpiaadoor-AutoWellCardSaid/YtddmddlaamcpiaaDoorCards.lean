/-
  DERIVED. GIVEN WITH THE SEED: THE CARDS: each row of YtddmddlaamcpiaaDoorRows.lean that lists a variable, with what it lists TIED to the program's text (the seventh form; the later family's looks); each row that meets fmt, with fmt's text TOLD by the authors' own Lean function (tested against real Go, not proved from fmt's source: count such statements apart). THE CARD IS WHAT COUNTS. Prove the row's statement (the work); the ties are given (YtddmddlaamcpiaaDoorTie.lean); close each card by the builder's one call (the guide's Derived/Test/ToyasCard.lean, 'card_holds'). Laid BY PROGRAM, IN A SANDBOX (cutbox-door.mjs). By AI agents, Wed Nov 11 2026. No macro, syntax, notation, axiom, sorry.
-/
import Derived.Test.YtddmddlaamcpiaaDoorRows
import GoSem.ClaimSeven
namespace Go.Proofs.YtddmddlaamcpiaaDoor
namespace Rows

/-- THE TIED CARD OF 'incipitlaw17.AutoApart'. -/
def autoApartCard : Claim7 := { stood := { row := autoApartRow, standIns := [], harness := (true, "cb040478e6c4e5892501f371416afd2cbb22b70a399e12990cbd855e88333fd9"), looks := false }, kinds := [], alts := [], laidByText := true, laidKinds := [.data, .pinned], laidTests := true, laidLooks := .later }
def AutoApartCardSaid : Prop := Claim7.holds Tryd.pinned (.plain (OpenSpec.ofChange autoApartSpec)) autoApartCard

/-- THE TIED CARD OF 'incipitlaw17.AutoPlain'. -/
def autoPlainCard : Claim7 := { stood := { row := autoPlainRow, standIns := [], harness := (true, "cb040478e6c4e5892501f371416afd2cbb22b70a399e12990cbd855e88333fd9"), looks := false }, kinds := [], alts := [], laidByText := true, laidKinds := [.data, .pinned], laidTests := true, laidLooks := .later }
def AutoPlainCardSaid : Prop := Claim7.holds Tryd.pinned (.plain (OpenSpec.ofChange autoPlainSpec)) autoPlainCard

/-- THE TIED CARD OF 'incipitlaw17.AutoNone'. -/
def autoNoneCard : Claim7 := { stood := { row := autoNoneRow, standIns := [], harness := (true, "cb040478e6c4e5892501f371416afd2cbb22b70a399e12990cbd855e88333fd9"), looks := false }, kinds := [], alts := [], laidByText := true, laidKinds := [.data, .pinned], laidTests := true, laidLooks := .later }
def AutoNoneCardSaid : Prop := Claim7.holds Tryd.pinned (.plain (OpenSpec.ofChange autoNoneSpec)) autoNoneCard

/-- THE TIED CARD OF 'incipitlaw17.AutoSums'. -/
def autoSumsCard : Claim7 := { stood := { row := autoSumsRow, standIns := [], harness := (true, "cb040478e6c4e5892501f371416afd2cbb22b70a399e12990cbd855e88333fd9"), looks := false }, kinds := [], alts := [], laidByText := true, laidKinds := [.data, .pinned], laidTests := true, laidLooks := .later }
def AutoSumsCardSaid : Prop := Claim7.holds Tryd.pinned (.plain (OpenSpec.ofChange autoSumsSpec)) autoSumsCard

/-- THE TIED CARD OF 'incipitlaw17.AutoWell'. -/
def autoWellCard : Claim7 := { stood := { row := autoWellRow, standIns := [], harness := (true, "cb040478e6c4e5892501f371416afd2cbb22b70a399e12990cbd855e88333fd9"), looks := false }, kinds := [], alts := [], laidByText := true, laidKinds := [.data, .pinned], laidTests := true, laidLooks := .later }
def AutoWellCardSaid : Prop := Claim7.holds Tryd.pinned (.plain (OpenSpec.ofChange autoWellSpec)) autoWellCard

/-- THE SECOND FORM's CARD OF 'incipitlaw17.AutoApart'. -/
def autoApartUptoCard : Claim7 := { stood := { row := autoApartUptoRow, standIns := [], harness := (true, "cb040478e6c4e5892501f371416afd2cbb22b70a399e12990cbd855e88333fd9"), looks := false }, kinds := [], alts := [], laidByText := true, laidKinds := [.data, .pinned], laidTests := true, laidLooks := .later }
def AutoApartUptoCardSaid : Prop := Claim7.holds Tryd.pinned (.plain (OpenSpec.upto autoApartSpec)) autoApartUptoCard

/-- THE SECOND FORM's CARD OF 'incipitlaw17.AutoPlain'. -/
def autoPlainUptoCard : Claim7 := { stood := { row := autoPlainUptoRow, standIns := [], harness := (true, "cb040478e6c4e5892501f371416afd2cbb22b70a399e12990cbd855e88333fd9"), looks := false }, kinds := [], alts := [], laidByText := true, laidKinds := [.data, .pinned], laidTests := true, laidLooks := .later }
def AutoPlainUptoCardSaid : Prop := Claim7.holds Tryd.pinned (.plain (OpenSpec.upto autoPlainSpec)) autoPlainUptoCard

/-- THE SECOND FORM's CARD OF 'incipitlaw17.AutoNone'. -/
def autoNoneUptoCard : Claim7 := { stood := { row := autoNoneUptoRow, standIns := [], harness := (true, "cb040478e6c4e5892501f371416afd2cbb22b70a399e12990cbd855e88333fd9"), looks := false }, kinds := [], alts := [], laidByText := true, laidKinds := [.data, .pinned], laidTests := true, laidLooks := .later }
def AutoNoneUptoCardSaid : Prop := Claim7.holds Tryd.pinned (.plain (OpenSpec.upto autoNoneSpec)) autoNoneUptoCard

/-- THE SECOND FORM's CARD OF 'incipitlaw17.AutoSums'. -/
def autoSumsUptoCard : Claim7 := { stood := { row := autoSumsUptoRow, standIns := [], harness := (true, "cb040478e6c4e5892501f371416afd2cbb22b70a399e12990cbd855e88333fd9"), looks := false }, kinds := [], alts := [], laidByText := true, laidKinds := [.data, .pinned], laidTests := true, laidLooks := .later }
def AutoSumsUptoCardSaid : Prop := Claim7.holds Tryd.pinned (.plain (OpenSpec.upto autoSumsSpec)) autoSumsUptoCard

/-- THE SECOND FORM's CARD OF 'incipitlaw17.AutoWell'. -/
def autoWellUptoCard : Claim7 := { stood := { row := autoWellUptoRow, standIns := [], harness := (true, "cb040478e6c4e5892501f371416afd2cbb22b70a399e12990cbd855e88333fd9"), looks := false }, kinds := [], alts := [], laidByText := true, laidKinds := [.data, .pinned], laidTests := true, laidLooks := .later }
def AutoWellUptoCardSaid : Prop := Claim7.holds Tryd.pinned (.plain (OpenSpec.upto autoWellSpec)) autoWellUptoCard
end Rows
end Go.Proofs.YtddmddlaamcpiaaDoor
