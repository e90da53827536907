/-
  DERIVED. GIVEN WITH THE SEED: THE CARDS: each row of YtondbckghchmpaaDoorRows.lean that lists a variable, with what it lists TIED to the program's text (the seventh form; the later family's looks); each row that meets fmt, with fmt's text TOLD by the authors' own Lean function (tested against real Go, not proved from fmt's source: count such statements apart). THE CARD IS WHAT COUNTS. Prove the row's statement (the work); the ties are given (YtondbckghchmpaaDoorTie.lean); close each card by the builder's one call (the guide's Derived/Test/ToyasCard.lean, 'card_holds'). Laid BY PROGRAM, IN A SANDBOX (cutbox-door.mjs). By AI agents, Wed Nov 11 2026. No macro, syntax, notation, axiom, sorry.
-/
import Derived.Test.YtondbckghchmpaaDoorRows
import GoSem.ClaimSeven
namespace Go.Proofs.YtondbckghchmpaaDoor
namespace Rows

/-- THE TIED CARD OF 'incipitlaw01.TextLines'. -/
def textLinesCard : Claim7 := { stood := { row := textLinesRow, standIns := [], harness := (true, "58c40e6029719f01f53edaa6c060c4436af46c758e0ef01d2ca6b1786d7e1998"), looks := false }, kinds := [], alts := [], laidByText := true, laidKinds := [.data, .pinned], laidTests := true, laidLooks := .later }
def TextLinesCardSaid : Prop := Claim7.holds Tryd.pinned (.plain (OpenSpec.ofChange textLinesSpec)) textLinesCard

/-- THE TIED CARD OF 'incipitlaw01.TextBack'. -/
def textBackCard : Claim7 := { stood := { row := textBackRow, standIns := [], harness := (true, "58c40e6029719f01f53edaa6c060c4436af46c758e0ef01d2ca6b1786d7e1998"), looks := false }, kinds := [], alts := [], laidByText := true, laidKinds := [.data, .pinned], laidTests := true, laidLooks := .later }
def TextBackCardSaid : Prop := Claim7.holds Tryd.pinned (.plain (OpenSpec.ofChange textBackSpec)) textBackCard

/-- THE TIED CARD OF 'incipitlaw01.TextJoins'. -/
def textJoinsCard : Claim7 := { stood := { row := textJoinsRow, standIns := [], harness := (true, "58c40e6029719f01f53edaa6c060c4436af46c758e0ef01d2ca6b1786d7e1998"), looks := false }, kinds := [], alts := [], laidByText := true, laidKinds := [.data, .pinned], laidTests := true, laidLooks := .later }
def TextJoinsCardSaid : Prop := Claim7.holds Tryd.pinned (.plain (OpenSpec.ofChange textJoinsSpec)) textJoinsCard

/-- THE TIED CARD OF 'incipitlaw01.TextBlanks'. -/
def textBlanksCard : Claim7 := { stood := { row := textBlanksRow, standIns := [], harness := (true, "58c40e6029719f01f53edaa6c060c4436af46c758e0ef01d2ca6b1786d7e1998"), looks := false }, kinds := [], alts := [], laidByText := true, laidKinds := [.data, .pinned], laidTests := true, laidLooks := .later }
def TextBlanksCardSaid : Prop := Claim7.holds Tryd.pinned (.plain (OpenSpec.ofChange textBlanksSpec)) textBlanksCard

/-- THE TIED CARD OF 'incipitlaw01.TextCleans'. -/
def textCleansCard : Claim7 := { stood := { row := textCleansRow, standIns := [], harness := (true, "58c40e6029719f01f53edaa6c060c4436af46c758e0ef01d2ca6b1786d7e1998"), looks := false }, kinds := [], alts := [], laidByText := true, laidKinds := [.data, .pinned], laidTests := true, laidLooks := .later }
def TextCleansCardSaid : Prop := Claim7.holds Tryd.pinned (.plain (OpenSpec.ofChange textCleansSpec)) textCleansCard

/-- THE TIED CARD OF 'incipitlaw01.TextOnce'. -/
def textOnceCard : Claim7 := { stood := { row := textOnceRow, standIns := [], harness := (true, "58c40e6029719f01f53edaa6c060c4436af46c758e0ef01d2ca6b1786d7e1998"), looks := false }, kinds := [], alts := [], laidByText := true, laidKinds := [.data, .pinned], laidTests := true, laidLooks := .later }
def TextOnceCardSaid : Prop := Claim7.holds Tryd.pinned (.plain (OpenSpec.ofChange textOnceSpec)) textOnceCard

/-- THE TIED CARD OF 'incipitlaw01.TextSums'. -/
def textSumsCard : Claim7 := { stood := { row := textSumsRow, standIns := [], harness := (true, "58c40e6029719f01f53edaa6c060c4436af46c758e0ef01d2ca6b1786d7e1998"), looks := false }, kinds := [], alts := [], laidByText := true, laidKinds := [.data, .pinned], laidTests := true, laidLooks := .later }
def TextSumsCardSaid : Prop := Claim7.holds Tryd.pinned (.plain (OpenSpec.ofChange textSumsSpec)) textSumsCard

/-- THE SECOND FORM's CARD OF 'incipitlaw01.TextLines'. -/
def textLinesUptoCard : Claim7 := { stood := { row := textLinesUptoRow, standIns := [], harness := (true, "58c40e6029719f01f53edaa6c060c4436af46c758e0ef01d2ca6b1786d7e1998"), looks := false }, kinds := [], alts := [], laidByText := true, laidKinds := [.data, .pinned], laidTests := true, laidLooks := .later }
def TextLinesUptoCardSaid : Prop := Claim7.holds Tryd.pinned (.plain (OpenSpec.upto textLinesSpec)) textLinesUptoCard

/-- THE SECOND FORM's CARD OF 'incipitlaw01.TextBack'. -/
def textBackUptoCard : Claim7 := { stood := { row := textBackUptoRow, standIns := [], harness := (true, "58c40e6029719f01f53edaa6c060c4436af46c758e0ef01d2ca6b1786d7e1998"), looks := false }, kinds := [], alts := [], laidByText := true, laidKinds := [.data, .pinned], laidTests := true, laidLooks := .later }
def TextBackUptoCardSaid : Prop := Claim7.holds Tryd.pinned (.plain (OpenSpec.upto textBackSpec)) textBackUptoCard

/-- THE SECOND FORM's CARD OF 'incipitlaw01.TextJoins'. -/
def textJoinsUptoCard : Claim7 := { stood := { row := textJoinsUptoRow, standIns := [], harness := (true, "58c40e6029719f01f53edaa6c060c4436af46c758e0ef01d2ca6b1786d7e1998"), looks := false }, kinds := [], alts := [], laidByText := true, laidKinds := [.data, .pinned], laidTests := true, laidLooks := .later }
def TextJoinsUptoCardSaid : Prop := Claim7.holds Tryd.pinned (.plain (OpenSpec.upto textJoinsSpec)) textJoinsUptoCard

/-- THE SECOND FORM's CARD OF 'incipitlaw01.TextBlanks'. -/
def textBlanksUptoCard : Claim7 := { stood := { row := textBlanksUptoRow, standIns := [], harness := (true, "58c40e6029719f01f53edaa6c060c4436af46c758e0ef01d2ca6b1786d7e1998"), looks := false }, kinds := [], alts := [], laidByText := true, laidKinds := [.data, .pinned], laidTests := true, laidLooks := .later }
def TextBlanksUptoCardSaid : Prop := Claim7.holds Tryd.pinned (.plain (OpenSpec.upto textBlanksSpec)) textBlanksUptoCard

/-- THE SECOND FORM's CARD OF 'incipitlaw01.TextCleans'. -/
def textCleansUptoCard : Claim7 := { stood := { row := textCleansUptoRow, standIns := [], harness := (true, "58c40e6029719f01f53edaa6c060c4436af46c758e0ef01d2ca6b1786d7e1998"), looks := false }, kinds := [], alts := [], laidByText := true, laidKinds := [.data, .pinned], laidTests := true, laidLooks := .later }
def TextCleansUptoCardSaid : Prop := Claim7.holds Tryd.pinned (.plain (OpenSpec.upto textCleansSpec)) textCleansUptoCard

/-- THE SECOND FORM's CARD OF 'incipitlaw01.TextOnce'. -/
def textOnceUptoCard : Claim7 := { stood := { row := textOnceUptoRow, standIns := [], harness := (true, "58c40e6029719f01f53edaa6c060c4436af46c758e0ef01d2ca6b1786d7e1998"), looks := false }, kinds := [], alts := [], laidByText := true, laidKinds := [.data, .pinned], laidTests := true, laidLooks := .later }
def TextOnceUptoCardSaid : Prop := Claim7.holds Tryd.pinned (.plain (OpenSpec.upto textOnceSpec)) textOnceUptoCard

/-- THE SECOND FORM's CARD OF 'incipitlaw01.TextSums'. -/
def textSumsUptoCard : Claim7 := { stood := { row := textSumsUptoRow, standIns := [], harness := (true, "58c40e6029719f01f53edaa6c060c4436af46c758e0ef01d2ca6b1786d7e1998"), looks := false }, kinds := [], alts := [], laidByText := true, laidKinds := [.data, .pinned], laidTests := true, laidLooks := .later }
def TextSumsUptoCardSaid : Prop := Claim7.holds Tryd.pinned (.plain (OpenSpec.upto textSumsSpec)) textSumsUptoCard
end Rows
end Go.Proofs.YtondbckghchmpaaDoor
