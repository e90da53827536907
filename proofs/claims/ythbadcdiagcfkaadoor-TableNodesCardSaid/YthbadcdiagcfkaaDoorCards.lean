/-
  DERIVED. GIVEN WITH THE SEED: THE CARDS: each row of YthbadcdiagcfkaaDoorRows.lean that lists a variable, with what it lists TIED to the program's text (the seventh form; the later family's looks); each row that meets fmt, with fmt's text TOLD by the authors' own Lean function (tested against real Go, not proved from fmt's source: count such statements apart). THE CARD IS WHAT COUNTS. Prove the row's statement (the work); the ties are given (YthbadcdiagcfkaaDoorTie.lean); close each card by the builder's one call (the guide's Derived/Test/ToyasCard.lean, 'card_holds'). Laid BY PROGRAM, IN A SANDBOX (cutbox-door.mjs). By AI agents, Wed Nov 11 2026. No macro, syntax, notation, axiom, sorry.
-/
import Derived.Test.YthbadcdiagcfkaaDoorRows
import GoSem.ClaimSeven
namespace Go.Proofs.YthbadcdiagcfkaaDoor
namespace Rows

/-- THE TIED CARD OF 'incipitlaw15.TableCells'. -/
def tableCellsCard : Claim7 := { stood := { row := tableCellsRow, standIns := [], harness := (true, "2973cb0545bd63a4e4df17e8bcad901e55d35004ff9c02c09a5a523aac10de8a"), looks := false }, kinds := [], alts := [], laidByText := true, laidKinds := [.data, .pinned], laidTests := true, laidLooks := .later }
def TableCellsCardSaid : Prop := Claim7.holds Tryd.pinned (.plain (OpenSpec.ofChange tableCellsSpec)) tableCellsCard

/-- THE TIED CARD OF 'incipitlaw15.TableSplits'. -/
def tableSplitsCard : Claim7 := { stood := { row := tableSplitsRow, standIns := [], harness := (true, "2973cb0545bd63a4e4df17e8bcad901e55d35004ff9c02c09a5a523aac10de8a"), looks := false }, kinds := [], alts := [], laidByText := true, laidKinds := [.data, .pinned], laidTests := true, laidLooks := .later }
def TableSplitsCardSaid : Prop := Claim7.holds Tryd.pinned (.plain (OpenSpec.ofChange tableSplitsSpec)) tableSplitsCard

/-- THE TIED CARD OF 'incipitlaw15.TableEven'. -/
def tableEvenCard : Claim7 := { stood := { row := tableEvenRow, standIns := [], harness := (true, "2973cb0545bd63a4e4df17e8bcad901e55d35004ff9c02c09a5a523aac10de8a"), looks := false }, kinds := [], alts := [], laidByText := true, laidKinds := [.data, .pinned], laidTests := true, laidLooks := .later }
def TableEvenCardSaid : Prop := Claim7.holds Tryd.pinned (.plain (OpenSpec.ofChange tableEvenSpec)) tableEvenCard

/-- THE TIED CARD OF 'incipitlaw15.TablePlain'. -/
def tablePlainCard : Claim7 := { stood := { row := tablePlainRow, standIns := [], harness := (true, "2973cb0545bd63a4e4df17e8bcad901e55d35004ff9c02c09a5a523aac10de8a"), looks := false }, kinds := [], alts := [], laidByText := true, laidKinds := [.data, .pinned], laidTests := true, laidLooks := .later }
def TablePlainCardSaid : Prop := Claim7.holds Tryd.pinned (.plain (OpenSpec.ofChange tablePlainSpec)) tablePlainCard

/-- THE TIED CARD OF 'incipitlaw15.TableReads'. -/
def tableReadsCard : Claim7 := { stood := { row := tableReadsRow, standIns := [], harness := (true, "2973cb0545bd63a4e4df17e8bcad901e55d35004ff9c02c09a5a523aac10de8a"), looks := false }, kinds := [], alts := [], laidByText := true, laidKinds := [.data, .pinned], laidTests := true, laidLooks := .later }
def TableReadsCardSaid : Prop := Claim7.holds Tryd.pinned (.plain (OpenSpec.ofChange tableReadsSpec)) tableReadsCard

/-- THE TIED CARD OF 'incipitlaw15.TableNodes'. -/
def tableNodesCard : Claim7 := { stood := { row := tableNodesRow, standIns := [], harness := (true, "2973cb0545bd63a4e4df17e8bcad901e55d35004ff9c02c09a5a523aac10de8a"), looks := false }, kinds := [], alts := [], laidByText := true, laidKinds := [.data, .pinned], laidTests := true, laidLooks := .later }
def TableNodesCardSaid : Prop := Claim7.holds Tryd.pinned (.plain (OpenSpec.ofChange tableNodesSpec)) tableNodesCard

/-- THE SECOND FORM's CARD OF 'incipitlaw15.TableCells'. -/
def tableCellsUptoCard : Claim7 := { stood := { row := tableCellsUptoRow, standIns := [], harness := (true, "2973cb0545bd63a4e4df17e8bcad901e55d35004ff9c02c09a5a523aac10de8a"), looks := false }, kinds := [], alts := [], laidByText := true, laidKinds := [.data, .pinned], laidTests := true, laidLooks := .later }
def TableCellsUptoCardSaid : Prop := Claim7.holds Tryd.pinned (.plain (OpenSpec.upto tableCellsSpec)) tableCellsUptoCard

/-- THE SECOND FORM's CARD OF 'incipitlaw15.TableSplits'. -/
def tableSplitsUptoCard : Claim7 := { stood := { row := tableSplitsUptoRow, standIns := [], harness := (true, "2973cb0545bd63a4e4df17e8bcad901e55d35004ff9c02c09a5a523aac10de8a"), looks := false }, kinds := [], alts := [], laidByText := true, laidKinds := [.data, .pinned], laidTests := true, laidLooks := .later }
def TableSplitsUptoCardSaid : Prop := Claim7.holds Tryd.pinned (.plain (OpenSpec.upto tableSplitsSpec)) tableSplitsUptoCard

/-- THE SECOND FORM's CARD OF 'incipitlaw15.TableEven'. -/
def tableEvenUptoCard : Claim7 := { stood := { row := tableEvenUptoRow, standIns := [], harness := (true, "2973cb0545bd63a4e4df17e8bcad901e55d35004ff9c02c09a5a523aac10de8a"), looks := false }, kinds := [], alts := [], laidByText := true, laidKinds := [.data, .pinned], laidTests := true, laidLooks := .later }
def TableEvenUptoCardSaid : Prop := Claim7.holds Tryd.pinned (.plain (OpenSpec.upto tableEvenSpec)) tableEvenUptoCard

/-- THE SECOND FORM's CARD OF 'incipitlaw15.TablePlain'. -/
def tablePlainUptoCard : Claim7 := { stood := { row := tablePlainUptoRow, standIns := [], harness := (true, "2973cb0545bd63a4e4df17e8bcad901e55d35004ff9c02c09a5a523aac10de8a"), looks := false }, kinds := [], alts := [], laidByText := true, laidKinds := [.data, .pinned], laidTests := true, laidLooks := .later }
def TablePlainUptoCardSaid : Prop := Claim7.holds Tryd.pinned (.plain (OpenSpec.upto tablePlainSpec)) tablePlainUptoCard

/-- THE SECOND FORM's CARD OF 'incipitlaw15.TableReads'. -/
def tableReadsUptoCard : Claim7 := { stood := { row := tableReadsUptoRow, standIns := [], harness := (true, "2973cb0545bd63a4e4df17e8bcad901e55d35004ff9c02c09a5a523aac10de8a"), looks := false }, kinds := [], alts := [], laidByText := true, laidKinds := [.data, .pinned], laidTests := true, laidLooks := .later }
def TableReadsUptoCardSaid : Prop := Claim7.holds Tryd.pinned (.plain (OpenSpec.upto tableReadsSpec)) tableReadsUptoCard

/-- THE SECOND FORM's CARD OF 'incipitlaw15.TableNodes'. -/
def tableNodesUptoCard : Claim7 := { stood := { row := tableNodesUptoRow, standIns := [], harness := (true, "2973cb0545bd63a4e4df17e8bcad901e55d35004ff9c02c09a5a523aac10de8a"), looks := false }, kinds := [], alts := [], laidByText := true, laidKinds := [.data, .pinned], laidTests := true, laidLooks := .later }
def TableNodesUptoCardSaid : Prop := Claim7.holds Tryd.pinned (.plain (OpenSpec.upto tableNodesSpec)) tableNodesUptoCard
end Rows
end Go.Proofs.YthbadcdiagcfkaaDoor
