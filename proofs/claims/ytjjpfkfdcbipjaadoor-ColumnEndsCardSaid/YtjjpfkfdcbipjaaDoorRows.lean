/-
  NARROWER THAN 'FOR EVERY INPUT', by the rows' own cells (each row's printed sentence says how): ColumnLess: laid · ColumnSteps: laid · ColumnSpaces: laid · ColumnTabs: laid · ColumnTrims: laid · ColumnEnds: laid.
  DERIVED. THE GIVEN ROWS OF THIS SEAT. 6 by the template 'for every input the law returns true; each argument reads behind the call as it read before'; 0 by the template 'total and deterministic' (their statements: YtjjpfkfdcbipjaaDoorTotals.lean).
  GIVEN WITH THE SEED: the statements are not yours to turn. If you find one false, say at which input.
  Laid BY PROGRAM, IN A SANDBOX (cutbox-rows.mjs): the forced cells as the released guide's own fill.sh prints them over the translation 539737f5789d385a… (all of the seat's roots in one cut). By AI agents, Wed Nov 11 2026. No macro, syntax, notation, axiom, sorry.
-/
import Derived.Test.YtjjpfkfdcbipjaaDoorChecked
import GoSem.PinnedTables
import GoSem.Claim
import GoSem.ClaimJoined
import GoSem.ClaimMapViews
import Derived.JoinedTies
import Derived.KernelRfl
namespace Go.Proofs.YtjjpfkfdcbipjaaDoor
/- THE CELL 'sum', in the pinned program and in every row, IS THE sha256 OF THE DUMP (.gsa) THAT YtjjpfkfdcbipjaaDoorProg.lean LOADS. Nothing in Lean hashes anything: it is a label: what it is worth is what the hold of that sum in a sandbox is worth. -/
noncomputable def Tryd.pinned : Pinned := { name := "ytjjpfkfdcbipjaadoor", sum := "539737f5789d385af24e04d0e61580c6052effbf672c1e6c794d431f32b32ebf", checked := Tryd.checked }
namespace Rows
def none {H : Type} : Left H := { results := [], args := [] }

/- WHAT THE LISTED PACKAGE-LEVEL VARIABLES READ AS WHEN THE CALL BEGINS. Each datum BY PROGRAM (the guide's laid-datum.mjs) off the statement by which the dump's own 'gosem.cut.vars' lays the variable. In a bare row this is a premise. The card (YtjjpfkfdcbipjaaDoorCards.lean) ties it to the program's text. -/
def laid_unicode_utf8_acceptRanges {H : Type} : DataW H := .agg [.agg [.lit (.int .u8 128), .lit (.int .u8 191)], .agg [.lit (.int .u8 160), .lit (.int .u8 191)], .agg [.lit (.int .u8 128), .lit (.int .u8 159)], .agg [.lit (.int .u8 144), .lit (.int .u8 191)], .agg [.lit (.int .u8 128), .lit (.int .u8 143)], .agg [.lit (.int .u8 0), .lit (.int .u8 0)], .agg [.lit (.int .u8 0), .lit (.int .u8 0)], .agg [.lit (.int .u8 0), .lit (.int .u8 0)], .agg [.lit (.int .u8 0), .lit (.int .u8 0)], .agg [.lit (.int .u8 0), .lit (.int .u8 0)], .agg [.lit (.int .u8 0), .lit (.int .u8 0)], .agg [.lit (.int .u8 0), .lit (.int .u8 0)], .agg [.lit (.int .u8 0), .lit (.int .u8 0)], .agg [.lit (.int .u8 0), .lit (.int .u8 0)], .agg [.lit (.int .u8 0), .lit (.int .u8 0)], .agg [.lit (.int .u8 0), .lit (.int .u8 0)]]
/-- One of Go's own tables, pinned by name: the form's constant. -/
def laid_unicode_utf8_first : DataW Unit := Go.Pinned.utf8First

/-- 'incipitlaw02.ColumnLess': WHATEVER THE INPUT: true; the input reads as it did. -/
def columnLessSpec : ChangeSpec := { name := "columnLess", fn := fun _ => fun
  | [d1, d2, d3] => { results := [.lit (.bool true)], args := [d1, d2, d3] }
  | _ => none }
def columnLessRow : OpenClaim := { program := "ytjjpfkfdcbipjaadoor", sum := "539737f5789d385af24e04d0e61580c6052effbf672c1e6c794d431f32b32ebf", func := "incipit/incipitlaw02.ColumnLess", spec := "columnLess", inPlace := ["internal/abi.NoEscape", "internal/bytealg.MakeNoZero", "internal/bytealg.IndexByteString", "internal/bytealg.IndexString"], unfollowed := true, recurses := true, named := ["unicode/utf8.first", "unicode/utf8.acceptRanges", "internal/bytealg.MaxLen"], apart := false, laid := [("unicode/utf8.acceptRanges", laid_unicode_utf8_acceptRanges), ("unicode/utf8.first", laid_unicode_utf8_first)] }
def ColumnLessSaid : Prop := columnLessRow.holds Tryd.pinned (OpenSpec.ofChange columnLessSpec)

/-- ITS FALSE NEIGHBOUR: 'it returns false'. Refute it at one input. -/
def columnLessWrong : ChangeSpec := { name := "columnLess", fn := fun _ => fun
  | [d1, d2, d3] => { results := [.lit (.bool false)], args := [d1, d2, d3] }
  | _ => none }
def ColumnLessWrongFalsely : Prop := columnLessRow.holds Tryd.pinned (OpenSpec.ofChange columnLessWrong)

/-- 'incipitlaw02.ColumnSteps': WHATEVER THE INPUT: true; the input reads as it did. -/
def columnStepsSpec : ChangeSpec := { name := "columnSteps", fn := fun _ => fun
  | [d1, d2, d3, d4] => { results := [.lit (.bool true)], args := [d1, d2, d3, d4] }
  | _ => none }
def columnStepsRow : OpenClaim := { program := "ytjjpfkfdcbipjaadoor", sum := "539737f5789d385af24e04d0e61580c6052effbf672c1e6c794d431f32b32ebf", func := "incipit/incipitlaw02.ColumnSteps", spec := "columnSteps", inPlace := ["internal/abi.NoEscape", "internal/bytealg.MakeNoZero", "internal/bytealg.IndexByteString", "internal/bytealg.IndexString"], unfollowed := true, recurses := true, named := ["unicode/utf8.first", "unicode/utf8.acceptRanges", "internal/bytealg.MaxLen"], apart := false, laid := [("unicode/utf8.acceptRanges", laid_unicode_utf8_acceptRanges), ("unicode/utf8.first", laid_unicode_utf8_first)] }
def ColumnStepsSaid : Prop := columnStepsRow.holds Tryd.pinned (OpenSpec.ofChange columnStepsSpec)

/-- ITS FALSE NEIGHBOUR: 'it returns false'. Refute it at one input. -/
def columnStepsWrong : ChangeSpec := { name := "columnSteps", fn := fun _ => fun
  | [d1, d2, d3, d4] => { results := [.lit (.bool false)], args := [d1, d2, d3, d4] }
  | _ => none }
def ColumnStepsWrongFalsely : Prop := columnStepsRow.holds Tryd.pinned (OpenSpec.ofChange columnStepsWrong)

/-- 'incipitlaw02.ColumnSpaces': WHATEVER THE INPUT: true; the input reads as it did. -/
def columnSpacesSpec : ChangeSpec := { name := "columnSpaces", fn := fun _ => fun
  | [d1, d2] => { results := [.lit (.bool true)], args := [d1, d2] }
  | _ => none }
def columnSpacesRow : OpenClaim := { program := "ytjjpfkfdcbipjaadoor", sum := "539737f5789d385af24e04d0e61580c6052effbf672c1e6c794d431f32b32ebf", func := "incipit/incipitlaw02.ColumnSpaces", spec := "columnSpaces", inPlace := ["internal/abi.NoEscape", "internal/bytealg.MakeNoZero", "internal/bytealg.IndexByteString", "internal/bytealg.IndexString"], unfollowed := true, recurses := true, named := ["unicode/utf8.first", "unicode/utf8.acceptRanges", "internal/bytealg.MaxLen"], apart := false, laid := [("unicode/utf8.acceptRanges", laid_unicode_utf8_acceptRanges), ("unicode/utf8.first", laid_unicode_utf8_first)] }
def ColumnSpacesSaid : Prop := columnSpacesRow.holds Tryd.pinned (OpenSpec.ofChange columnSpacesSpec)

/-- ITS FALSE NEIGHBOUR: 'it returns false'. Refute it at one input. -/
def columnSpacesWrong : ChangeSpec := { name := "columnSpaces", fn := fun _ => fun
  | [d1, d2] => { results := [.lit (.bool false)], args := [d1, d2] }
  | _ => none }
def ColumnSpacesWrongFalsely : Prop := columnSpacesRow.holds Tryd.pinned (OpenSpec.ofChange columnSpacesWrong)

/-- 'incipitlaw02.ColumnTabs': WHATEVER THE INPUT: true; the input reads as it did. -/
def columnTabsSpec : ChangeSpec := { name := "columnTabs", fn := fun _ => fun
  | [d1, d2] => { results := [.lit (.bool true)], args := [d1, d2] }
  | _ => none }
def columnTabsRow : OpenClaim := { program := "ytjjpfkfdcbipjaadoor", sum := "539737f5789d385af24e04d0e61580c6052effbf672c1e6c794d431f32b32ebf", func := "incipit/incipitlaw02.ColumnTabs", spec := "columnTabs", inPlace := ["internal/abi.NoEscape", "internal/bytealg.MakeNoZero", "internal/bytealg.IndexByteString", "internal/bytealg.IndexString"], unfollowed := true, recurses := true, named := ["unicode/utf8.first", "unicode/utf8.acceptRanges", "internal/bytealg.MaxLen"], apart := false, laid := [("unicode/utf8.acceptRanges", laid_unicode_utf8_acceptRanges), ("unicode/utf8.first", laid_unicode_utf8_first)] }
def ColumnTabsSaid : Prop := columnTabsRow.holds Tryd.pinned (OpenSpec.ofChange columnTabsSpec)

/-- ITS FALSE NEIGHBOUR: 'it returns false'. Refute it at one input. -/
def columnTabsWrong : ChangeSpec := { name := "columnTabs", fn := fun _ => fun
  | [d1, d2] => { results := [.lit (.bool false)], args := [d1, d2] }
  | _ => none }
def ColumnTabsWrongFalsely : Prop := columnTabsRow.holds Tryd.pinned (OpenSpec.ofChange columnTabsWrong)

/-- 'incipitlaw02.ColumnTrims': WHATEVER THE INPUT: true; the input reads as it did. -/
def columnTrimsSpec : ChangeSpec := { name := "columnTrims", fn := fun _ => fun
  | [d] => { results := [.lit (.bool true)], args := [d] }
  | _ => none }
def columnTrimsRow : OpenClaim := { program := "ytjjpfkfdcbipjaadoor", sum := "539737f5789d385af24e04d0e61580c6052effbf672c1e6c794d431f32b32ebf", func := "incipit/incipitlaw02.ColumnTrims", spec := "columnTrims", inPlace := ["internal/abi.NoEscape", "internal/bytealg.MakeNoZero", "internal/bytealg.IndexByteString", "internal/bytealg.IndexString"], unfollowed := true, recurses := true, named := ["unicode/utf8.first", "unicode/utf8.acceptRanges", "internal/bytealg.MaxLen"], apart := false, laid := [("unicode/utf8.acceptRanges", laid_unicode_utf8_acceptRanges), ("unicode/utf8.first", laid_unicode_utf8_first)] }
def ColumnTrimsSaid : Prop := columnTrimsRow.holds Tryd.pinned (OpenSpec.ofChange columnTrimsSpec)

/-- ITS FALSE NEIGHBOUR: 'it returns false'. Refute it at one input. -/
def columnTrimsWrong : ChangeSpec := { name := "columnTrims", fn := fun _ => fun
  | [d] => { results := [.lit (.bool false)], args := [d] }
  | _ => none }
def ColumnTrimsWrongFalsely : Prop := columnTrimsRow.holds Tryd.pinned (OpenSpec.ofChange columnTrimsWrong)

/-- 'incipitlaw02.ColumnEnds': WHATEVER THE INPUT: true; the input reads as it did. -/
def columnEndsSpec : ChangeSpec := { name := "columnEnds", fn := fun _ => fun
  | [d] => { results := [.lit (.bool true)], args := [d] }
  | _ => none }
def columnEndsRow : OpenClaim := { program := "ytjjpfkfdcbipjaadoor", sum := "539737f5789d385af24e04d0e61580c6052effbf672c1e6c794d431f32b32ebf", func := "incipit/incipitlaw02.ColumnEnds", spec := "columnEnds", inPlace := ["internal/abi.NoEscape", "internal/bytealg.MakeNoZero", "internal/bytealg.IndexByteString", "internal/bytealg.IndexString"], unfollowed := true, recurses := true, named := ["unicode/utf8.first", "unicode/utf8.acceptRanges", "internal/bytealg.MaxLen"], apart := false, laid := [("unicode/utf8.acceptRanges", laid_unicode_utf8_acceptRanges), ("unicode/utf8.first", laid_unicode_utf8_first)] }
def ColumnEndsSaid : Prop := columnEndsRow.holds Tryd.pinned (OpenSpec.ofChange columnEndsSpec)

/-- ITS FALSE NEIGHBOUR: 'it returns false'. Refute it at one input. -/
def columnEndsWrong : ChangeSpec := { name := "columnEnds", fn := fun _ => fun
  | [d] => { results := [.lit (.bool false)], args := [d] }
  | _ => none }
def ColumnEndsWrongFalsely : Prop := columnEndsRow.holds Tryd.pinned (OpenSpec.ofChange columnEndsWrong)

/- THE SECOND FORM. 'bulk': how many values and letters a reading holds, each counted each time it is reached (what is shared counts as often as it is met; a slice's spare places count too). A statement '..UptoSaid' is the law's where the arguments, and the package variables that the reading takes, are together of bulk at most 1048576: NARROWER than '..Said'. Prove '..Said' where nothing that the law and all that it calls make is longer than what came in: it says more and counts as full. Else prove '..UptoSaid'. A law counts once. -/
mutual
def uptoBulk {H : Type} : DataW H → Nat
  | .lit (.string bytes) => bytes.length + 1
  | .lit _ => 1
  | .nil => 1
  | .ptr d => uptoBulk d + 1
  | .slice elems spare => uptoBulkAll elems + uptoBulkAll spare + 1
  | .agg parts => uptoBulkAll parts + 1
  | .iface _ d => uptoBulk d + 1
  | .map entries => uptoBulkEntries entries + 1
  | .held _ => 1
def uptoBulkAll {H : Type} : List (DataW H) → Nat
  | [] => 0
  | d :: r => uptoBulk d + uptoBulkAll r
def uptoBulkEntries {H : Type} : List (Lit × DataW H) → Nat
  | [] => 0
  | x :: r => uptoBulkEntry x + uptoBulkEntries r
def uptoBulkEntry {H : Type} : Lit × DataW H → Nat
  | (.string bytes, d) => bytes.length + uptoBulk d + 1
  | (_, d) => uptoBulk d + 1
 end
def uptoSmall : (H : Type) → List (DataW H) → Bool := fun _ ds => decide (uptoBulkAll ds ≤ 1048576)
def OpenSpec.upto (s : _root_.Go.ChangeSpec) : _root_.Go.OpenSpec := { _root_.Go.OpenSpec.ofChange s with cond := some uptoSmall }

/-- 'incipitlaw02.ColumnLess', WHERE WHAT IT READS IS OF BULK AT MOST 1048576: true; the input reads as it did. -/
def columnLessUptoRow : OpenClaim := { program := "ytjjpfkfdcbipjaadoor", sum := "539737f5789d385af24e04d0e61580c6052effbf672c1e6c794d431f32b32ebf", func := "incipit/incipitlaw02.ColumnLess", spec := "columnLess", inPlace := ["internal/abi.NoEscape", "internal/bytealg.MakeNoZero", "internal/bytealg.IndexByteString", "internal/bytealg.IndexString"], unfollowed := true, recurses := true, named := ["unicode/utf8.first", "unicode/utf8.acceptRanges", "internal/bytealg.MaxLen"], apart := false, laid := [("unicode/utf8.acceptRanges", laid_unicode_utf8_acceptRanges), ("unicode/utf8.first", laid_unicode_utf8_first)], narrowed := true }
def ColumnLessUptoSaid : Prop := columnLessUptoRow.holds Tryd.pinned (OpenSpec.upto columnLessSpec)

/-- 'incipitlaw02.ColumnSteps', WHERE WHAT IT READS IS OF BULK AT MOST 1048576: true; the input reads as it did. -/
def columnStepsUptoRow : OpenClaim := { program := "ytjjpfkfdcbipjaadoor", sum := "539737f5789d385af24e04d0e61580c6052effbf672c1e6c794d431f32b32ebf", func := "incipit/incipitlaw02.ColumnSteps", spec := "columnSteps", inPlace := ["internal/abi.NoEscape", "internal/bytealg.MakeNoZero", "internal/bytealg.IndexByteString", "internal/bytealg.IndexString"], unfollowed := true, recurses := true, named := ["unicode/utf8.first", "unicode/utf8.acceptRanges", "internal/bytealg.MaxLen"], apart := false, laid := [("unicode/utf8.acceptRanges", laid_unicode_utf8_acceptRanges), ("unicode/utf8.first", laid_unicode_utf8_first)], narrowed := true }
def ColumnStepsUptoSaid : Prop := columnStepsUptoRow.holds Tryd.pinned (OpenSpec.upto columnStepsSpec)

/-- 'incipitlaw02.ColumnSpaces', WHERE WHAT IT READS IS OF BULK AT MOST 1048576: true; the input reads as it did. -/
def columnSpacesUptoRow : OpenClaim := { program := "ytjjpfkfdcbipjaadoor", sum := "539737f5789d385af24e04d0e61580c6052effbf672c1e6c794d431f32b32ebf", func := "incipit/incipitlaw02.ColumnSpaces", spec := "columnSpaces", inPlace := ["internal/abi.NoEscape", "internal/bytealg.MakeNoZero", "internal/bytealg.IndexByteString", "internal/bytealg.IndexString"], unfollowed := true, recurses := true, named := ["unicode/utf8.first", "unicode/utf8.acceptRanges", "internal/bytealg.MaxLen"], apart := false, laid := [("unicode/utf8.acceptRanges", laid_unicode_utf8_acceptRanges), ("unicode/utf8.first", laid_unicode_utf8_first)], narrowed := true }
def ColumnSpacesUptoSaid : Prop := columnSpacesUptoRow.holds Tryd.pinned (OpenSpec.upto columnSpacesSpec)

/-- 'incipitlaw02.ColumnTabs', WHERE WHAT IT READS IS OF BULK AT MOST 1048576: true; the input reads as it did. -/
def columnTabsUptoRow : OpenClaim := { program := "ytjjpfkfdcbipjaadoor", sum := "539737f5789d385af24e04d0e61580c6052effbf672c1e6c794d431f32b32ebf", func := "incipit/incipitlaw02.ColumnTabs", spec := "columnTabs", inPlace := ["internal/abi.NoEscape", "internal/bytealg.MakeNoZero", "internal/bytealg.IndexByteString", "internal/bytealg.IndexString"], unfollowed := true, recurses := true, named := ["unicode/utf8.first", "unicode/utf8.acceptRanges", "internal/bytealg.MaxLen"], apart := false, laid := [("unicode/utf8.acceptRanges", laid_unicode_utf8_acceptRanges), ("unicode/utf8.first", laid_unicode_utf8_first)], narrowed := true }
def ColumnTabsUptoSaid : Prop := columnTabsUptoRow.holds Tryd.pinned (OpenSpec.upto columnTabsSpec)

/-- 'incipitlaw02.ColumnTrims', WHERE WHAT IT READS IS OF BULK AT MOST 1048576: true; the input reads as it did. -/
def columnTrimsUptoRow : OpenClaim := { program := "ytjjpfkfdcbipjaadoor", sum := "539737f5789d385af24e04d0e61580c6052effbf672c1e6c794d431f32b32ebf", func := "incipit/incipitlaw02.ColumnTrims", spec := "columnTrims", inPlace := ["internal/abi.NoEscape", "internal/bytealg.MakeNoZero", "internal/bytealg.IndexByteString", "internal/bytealg.IndexString"], unfollowed := true, recurses := true, named := ["unicode/utf8.first", "unicode/utf8.acceptRanges", "internal/bytealg.MaxLen"], apart := false, laid := [("unicode/utf8.acceptRanges", laid_unicode_utf8_acceptRanges), ("unicode/utf8.first", laid_unicode_utf8_first)], narrowed := true }
def ColumnTrimsUptoSaid : Prop := columnTrimsUptoRow.holds Tryd.pinned (OpenSpec.upto columnTrimsSpec)

/-- 'incipitlaw02.ColumnEnds', WHERE WHAT IT READS IS OF BULK AT MOST 1048576: true; the input reads as it did. -/
def columnEndsUptoRow : OpenClaim := { program := "ytjjpfkfdcbipjaadoor", sum := "539737f5789d385af24e04d0e61580c6052effbf672c1e6c794d431f32b32ebf", func := "incipit/incipitlaw02.ColumnEnds", spec := "columnEnds", inPlace := ["internal/abi.NoEscape", "internal/bytealg.MakeNoZero", "internal/bytealg.IndexByteString", "internal/bytealg.IndexString"], unfollowed := true, recurses := true, named := ["unicode/utf8.first", "unicode/utf8.acceptRanges", "internal/bytealg.MaxLen"], apart := false, laid := [("unicode/utf8.acceptRanges", laid_unicode_utf8_acceptRanges), ("unicode/utf8.first", laid_unicode_utf8_first)], narrowed := true }
def ColumnEndsUptoSaid : Prop := columnEndsUptoRow.holds Tryd.pinned (OpenSpec.upto columnEndsSpec)

end Rows
end Go.Proofs.YtjjpfkfdcbipjaaDoor
