/-
  NARROWER THAN 'FOR EVERY INPUT', by the rows' own cells (each row's printed sentence says how): AutoApart: laid · AutoPlain: laid · AutoNone: laid · AutoSums: laid · AutoWell: loops, laid.
  DERIVED. THE GIVEN ROWS OF THIS SEAT. 5 by the template 'for every input the law returns true; each argument reads behind the call as it read before'; 0 by the template 'total and deterministic' (their statements: YtddmddlaamcpiaaDoorTotals.lean).
  GIVEN WITH THE SEED: the statements are not yours to turn. If you find one false, say at which input.
  Laid BY PROGRAM, IN A SANDBOX (cutbox-rows.mjs): the forced cells as the released guide's own fill.sh prints them over the translation 314159112e01ef10… (all of the seat's roots in one cut). By AI agents, Wed Nov 11 2026. No macro, syntax, notation, axiom, sorry.
-/
import Derived.Test.YtddmddlaamcpiaaDoorChecked
import GoSem.PinnedTables
import GoSem.Claim
import GoSem.ClaimJoined
import GoSem.ClaimMapViews
import Derived.JoinedTies
import Derived.KernelRfl
namespace Go.Proofs.YtddmddlaamcpiaaDoor
/- THE CELL 'sum', in the pinned program and in every row, IS THE sha256 OF THE DUMP (.gsa) THAT YtddmddlaamcpiaaDoorProg.lean LOADS. Nothing in Lean hashes anything: it is a label: what it is worth is what the hold of that sum in a sandbox is worth. -/
noncomputable def Tryd.pinned : Pinned := { name := "ytddmddlaamcpiaadoor", sum := "314159112e01ef10b0761670cfab3413fd2271bc795b9839a21f0509621c9a4d", checked := Tryd.checked }
namespace Rows
def none {H : Type} : Left H := { results := [], args := [] }

/- WHAT THE LISTED PACKAGE-LEVEL VARIABLES READ AS WHEN THE CALL BEGINS. Each datum BY PROGRAM (the guide's laid-datum.mjs) off the statement by which the dump's own 'gosem.cut.vars' lays the variable. In a bare row this is a premise. The card (YtddmddlaamcpiaaDoorCards.lean) ties it to the program's text. -/
def laid_unicode_utf8_acceptRanges {H : Type} : DataW H := .agg [.agg [.lit (.int .u8 128), .lit (.int .u8 191)], .agg [.lit (.int .u8 160), .lit (.int .u8 191)], .agg [.lit (.int .u8 128), .lit (.int .u8 159)], .agg [.lit (.int .u8 144), .lit (.int .u8 191)], .agg [.lit (.int .u8 128), .lit (.int .u8 143)], .agg [.lit (.int .u8 0), .lit (.int .u8 0)], .agg [.lit (.int .u8 0), .lit (.int .u8 0)], .agg [.lit (.int .u8 0), .lit (.int .u8 0)], .agg [.lit (.int .u8 0), .lit (.int .u8 0)], .agg [.lit (.int .u8 0), .lit (.int .u8 0)], .agg [.lit (.int .u8 0), .lit (.int .u8 0)], .agg [.lit (.int .u8 0), .lit (.int .u8 0)], .agg [.lit (.int .u8 0), .lit (.int .u8 0)], .agg [.lit (.int .u8 0), .lit (.int .u8 0)], .agg [.lit (.int .u8 0), .lit (.int .u8 0)], .agg [.lit (.int .u8 0), .lit (.int .u8 0)]]
/-- One of Go's own tables, pinned by name: the form's constant. -/
def laid_unicode_utf8_first : DataW Unit := Go.Pinned.utf8First

/-- 'incipitlaw17.AutoApart': WHATEVER THE INPUT: true; the input reads as it did. -/
def autoApartSpec : ChangeSpec := { name := "autoApart", fn := fun _ => fun
  | [d] => { results := [.lit (.bool true)], args := [d] }
  | _ => none }
def autoApartRow : OpenClaim := { program := "ytddmddlaamcpiaadoor", sum := "314159112e01ef10b0761670cfab3413fd2271bc795b9839a21f0509621c9a4d", func := "incipit/incipitlaw17.AutoApart", spec := "autoApart", inPlace := ["internal/bytealg.IndexByteString", "internal/bytealg.IndexString", "internal/bytealg.CountString"], named := ["unicode/utf8.first", "unicode/utf8.acceptRanges", "internal/bytealg.MaxLen"], apart := false, laid := [("unicode/utf8.acceptRanges", laid_unicode_utf8_acceptRanges), ("unicode/utf8.first", laid_unicode_utf8_first)] }
def AutoApartSaid : Prop := autoApartRow.holds Tryd.pinned (OpenSpec.ofChange autoApartSpec)

/-- ITS FALSE NEIGHBOUR: 'it returns false'. Refute it at one input. -/
def autoApartWrong : ChangeSpec := { name := "autoApart", fn := fun _ => fun
  | [d] => { results := [.lit (.bool false)], args := [d] }
  | _ => none }
def AutoApartWrongFalsely : Prop := autoApartRow.holds Tryd.pinned (OpenSpec.ofChange autoApartWrong)

/-- 'incipitlaw17.AutoPlain': WHATEVER THE INPUT: true; the input reads as it did. -/
def autoPlainSpec : ChangeSpec := { name := "autoPlain", fn := fun _ => fun
  | [d1, d2] => { results := [.lit (.bool true)], args := [d1, d2] }
  | _ => none }
def autoPlainRow : OpenClaim := { program := "ytddmddlaamcpiaadoor", sum := "314159112e01ef10b0761670cfab3413fd2271bc795b9839a21f0509621c9a4d", func := "incipit/incipitlaw17.AutoPlain", spec := "autoPlain", inPlace := ["internal/bytealg.IndexByteString", "internal/bytealg.IndexString", "internal/bytealg.CountString"], named := ["unicode/utf8.first", "unicode/utf8.acceptRanges", "internal/bytealg.MaxLen"], apart := false, laid := [("unicode/utf8.acceptRanges", laid_unicode_utf8_acceptRanges), ("unicode/utf8.first", laid_unicode_utf8_first)] }
def AutoPlainSaid : Prop := autoPlainRow.holds Tryd.pinned (OpenSpec.ofChange autoPlainSpec)

/-- ITS FALSE NEIGHBOUR: 'it returns false'. Refute it at one input. -/
def autoPlainWrong : ChangeSpec := { name := "autoPlain", fn := fun _ => fun
  | [d1, d2] => { results := [.lit (.bool false)], args := [d1, d2] }
  | _ => none }
def AutoPlainWrongFalsely : Prop := autoPlainRow.holds Tryd.pinned (OpenSpec.ofChange autoPlainWrong)

/-- 'incipitlaw17.AutoNone': WHATEVER THE INPUT: true; the input reads as it did. -/
def autoNoneSpec : ChangeSpec := { name := "autoNone", fn := fun _ => fun
  | [d] => { results := [.lit (.bool true)], args := [d] }
  | _ => none }
def autoNoneRow : OpenClaim := { program := "ytddmddlaamcpiaadoor", sum := "314159112e01ef10b0761670cfab3413fd2271bc795b9839a21f0509621c9a4d", func := "incipit/incipitlaw17.AutoNone", spec := "autoNone", inPlace := ["internal/bytealg.IndexByteString", "internal/bytealg.IndexString", "internal/bytealg.CountString"], named := ["unicode/utf8.first", "unicode/utf8.acceptRanges", "internal/bytealg.MaxLen"], apart := false, laid := [("unicode/utf8.acceptRanges", laid_unicode_utf8_acceptRanges), ("unicode/utf8.first", laid_unicode_utf8_first)] }
def AutoNoneSaid : Prop := autoNoneRow.holds Tryd.pinned (OpenSpec.ofChange autoNoneSpec)

/-- ITS FALSE NEIGHBOUR: 'it returns false'. Refute it at one input. -/
def autoNoneWrong : ChangeSpec := { name := "autoNone", fn := fun _ => fun
  | [d] => { results := [.lit (.bool false)], args := [d] }
  | _ => none }
def AutoNoneWrongFalsely : Prop := autoNoneRow.holds Tryd.pinned (OpenSpec.ofChange autoNoneWrong)

/-- 'incipitlaw17.AutoSums': WHATEVER THE INPUT: true; the input reads as it did. -/
def autoSumsSpec : ChangeSpec := { name := "autoSums", fn := fun _ => fun
  | [d1, d2] => { results := [.lit (.bool true)], args := [d1, d2] }
  | _ => none }
def autoSumsRow : OpenClaim := { program := "ytddmddlaamcpiaadoor", sum := "314159112e01ef10b0761670cfab3413fd2271bc795b9839a21f0509621c9a4d", func := "incipit/incipitlaw17.AutoSums", spec := "autoSums", inPlace := ["internal/bytealg.IndexByteString", "internal/bytealg.IndexString", "internal/bytealg.CountString"], named := ["unicode/utf8.first", "unicode/utf8.acceptRanges", "internal/bytealg.MaxLen"], apart := false, laid := [("unicode/utf8.acceptRanges", laid_unicode_utf8_acceptRanges), ("unicode/utf8.first", laid_unicode_utf8_first)] }
def AutoSumsSaid : Prop := autoSumsRow.holds Tryd.pinned (OpenSpec.ofChange autoSumsSpec)

/-- ITS FALSE NEIGHBOUR: 'it returns false'. Refute it at one input. -/
def autoSumsWrong : ChangeSpec := { name := "autoSums", fn := fun _ => fun
  | [d1, d2] => { results := [.lit (.bool false)], args := [d1, d2] }
  | _ => none }
def AutoSumsWrongFalsely : Prop := autoSumsRow.holds Tryd.pinned (OpenSpec.ofChange autoSumsWrong)

/-- 'incipitlaw17.AutoWell': WHATEVER THE INPUT: true; the input reads as it did. -/
def autoWellSpec : ChangeSpec := { name := "autoWell", fn := fun _ => fun
  | [d] => { results := [.lit (.bool true)], args := [d] }
  | _ => none }
def autoWellRow : OpenClaim := { program := "ytddmddlaamcpiaadoor", sum := "314159112e01ef10b0761670cfab3413fd2271bc795b9839a21f0509621c9a4d", func := "incipit/incipitlaw17.AutoWell", spec := "autoWell", inPlace := ["internal/bytealg.IndexByteString", "internal/bytealg.IndexString", "internal/bytealg.CountString"], unfollowed := true, recurses := true, named := ["unicode/utf8.first", "unicode/utf8.acceptRanges", "internal/bytealg.MaxLen"], loops := true, apart := false, laid := [("unicode/utf8.acceptRanges", laid_unicode_utf8_acceptRanges), ("unicode/utf8.first", laid_unicode_utf8_first)] }
def AutoWellSaid : Prop := autoWellRow.holds Tryd.pinned (OpenSpec.ofChange autoWellSpec)

/-- ITS FALSE NEIGHBOUR: 'it returns false'. Refute it at one input. -/
def autoWellWrong : ChangeSpec := { name := "autoWell", fn := fun _ => fun
  | [d] => { results := [.lit (.bool false)], args := [d] }
  | _ => none }
def AutoWellWrongFalsely : Prop := autoWellRow.holds Tryd.pinned (OpenSpec.ofChange autoWellWrong)

/- THE SECOND FORM. 'bulk': how many values and letters a reading holds, each counted each time it is reached (what is shared counts as often as it is met; a slice's spare places count too). A statement '..UptoSaid' is the law's where the arguments, and the package variables that the reading takes, are together of bulk at most 1048576: NARROWER than '..Said'. Prove '..Said' where nothing that the law and all that it calls make is longer than what came in: it says more and counts as full. Else prove '..UptoSaid'. A law counts once. -/
mutual
def uptoBulk {H : Type} : DataW H → Nat
  | .lit (.string bytes) => bytes.length + 1
  | .lit _ => 1
  | .nil => 1
  | .ptr d => uptoBulk d + 1
  | .slice elems spare => uptoBulkAll elems + uptoBulkAll spare + 1
  | .agg parts => uptoBulkAll parts + 1
  | .iface _ d => uptoBulk d + 1
  | .map entries => uptoBulkEntries entries + 1
  | .held _ => 1
def uptoBulkAll {H : Type} : List (DataW H) → Nat
  | [] => 0
  | d :: r => uptoBulk d + uptoBulkAll r
def uptoBulkEntries {H : Type} : List (Lit × DataW H) → Nat
  | [] => 0
  | x :: r => uptoBulkEntry x + uptoBulkEntries r
def uptoBulkEntry {H : Type} : Lit × DataW H → Nat
  | (.string bytes, d) => bytes.length + uptoBulk d + 1
  | (_, d) => uptoBulk d + 1
 end
def uptoSmall : (H : Type) → List (DataW H) → Bool := fun _ ds => decide (uptoBulkAll ds ≤ 1048576)
def OpenSpec.upto (s : _root_.Go.ChangeSpec) : _root_.Go.OpenSpec := { _root_.Go.OpenSpec.ofChange s with cond := some uptoSmall }

/-- 'incipitlaw17.AutoApart', WHERE WHAT IT READS IS OF BULK AT MOST 1048576: true; the input reads as it did. -/
def autoApartUptoRow : OpenClaim := { program := "ytddmddlaamcpiaadoor", sum := "314159112e01ef10b0761670cfab3413fd2271bc795b9839a21f0509621c9a4d", func := "incipit/incipitlaw17.AutoApart", spec := "autoApart", inPlace := ["internal/bytealg.IndexByteString", "internal/bytealg.IndexString", "internal/bytealg.CountString"], named := ["unicode/utf8.first", "unicode/utf8.acceptRanges", "internal/bytealg.MaxLen"], apart := false, laid := [("unicode/utf8.acceptRanges", laid_unicode_utf8_acceptRanges), ("unicode/utf8.first", laid_unicode_utf8_first)], narrowed := true }
def AutoApartUptoSaid : Prop := autoApartUptoRow.holds Tryd.pinned (OpenSpec.upto autoApartSpec)

/-- 'incipitlaw17.AutoPlain', WHERE WHAT IT READS IS OF BULK AT MOST 1048576: true; the input reads as it did. -/
def autoPlainUptoRow : OpenClaim := { program := "ytddmddlaamcpiaadoor", sum := "314159112e01ef10b0761670cfab3413fd2271bc795b9839a21f0509621c9a4d", func := "incipit/incipitlaw17.AutoPlain", spec := "autoPlain", inPlace := ["internal/bytealg.IndexByteString", "internal/bytealg.IndexString", "internal/bytealg.CountString"], named := ["unicode/utf8.first", "unicode/utf8.acceptRanges", "internal/bytealg.MaxLen"], apart := false, laid := [("unicode/utf8.acceptRanges", laid_unicode_utf8_acceptRanges), ("unicode/utf8.first", laid_unicode_utf8_first)], narrowed := true }
def AutoPlainUptoSaid : Prop := autoPlainUptoRow.holds Tryd.pinned (OpenSpec.upto autoPlainSpec)

/-- 'incipitlaw17.AutoNone', WHERE WHAT IT READS IS OF BULK AT MOST 1048576: true; the input reads as it did. -/
def autoNoneUptoRow : OpenClaim := { program := "ytddmddlaamcpiaadoor", sum := "314159112e01ef10b0761670cfab3413fd2271bc795b9839a21f0509621c9a4d", func := "incipit/incipitlaw17.AutoNone", spec := "autoNone", inPlace := ["internal/bytealg.IndexByteString", "internal/bytealg.IndexString", "internal/bytealg.CountString"], named := ["unicode/utf8.first", "unicode/utf8.acceptRanges", "internal/bytealg.MaxLen"], apart := false, laid := [("unicode/utf8.acceptRanges", laid_unicode_utf8_acceptRanges), ("unicode/utf8.first", laid_unicode_utf8_first)], narrowed := true }
def AutoNoneUptoSaid : Prop := autoNoneUptoRow.holds Tryd.pinned (OpenSpec.upto autoNoneSpec)

/-- 'incipitlaw17.AutoSums', WHERE WHAT IT READS IS OF BULK AT MOST 1048576: true; the input reads as it did. -/
def autoSumsUptoRow : OpenClaim := { program := "ytddmddlaamcpiaadoor", sum := "314159112e01ef10b0761670cfab3413fd2271bc795b9839a21f0509621c9a4d", func := "incipit/incipitlaw17.AutoSums", spec := "autoSums", inPlace := ["internal/bytealg.IndexByteString", "internal/bytealg.IndexString", "internal/bytealg.CountString"], named := ["unicode/utf8.first", "unicode/utf8.acceptRanges", "internal/bytealg.MaxLen"], apart := false, laid := [("unicode/utf8.acceptRanges", laid_unicode_utf8_acceptRanges), ("unicode/utf8.first", laid_unicode_utf8_first)], narrowed := true }
def AutoSumsUptoSaid : Prop := autoSumsUptoRow.holds Tryd.pinned (OpenSpec.upto autoSumsSpec)

/-- 'incipitlaw17.AutoWell', WHERE WHAT IT READS IS OF BULK AT MOST 1048576: true; the input reads as it did. -/
def autoWellUptoRow : OpenClaim := { program := "ytddmddlaamcpiaadoor", sum := "314159112e01ef10b0761670cfab3413fd2271bc795b9839a21f0509621c9a4d", func := "incipit/incipitlaw17.AutoWell", spec := "autoWell", inPlace := ["internal/bytealg.IndexByteString", "internal/bytealg.IndexString", "internal/bytealg.CountString"], unfollowed := true, recurses := true, named := ["unicode/utf8.first", "unicode/utf8.acceptRanges", "internal/bytealg.MaxLen"], loops := true, apart := false, laid := [("unicode/utf8.acceptRanges", laid_unicode_utf8_acceptRanges), ("unicode/utf8.first", laid_unicode_utf8_first)], narrowed := true }
def AutoWellUptoSaid : Prop := autoWellUptoRow.holds Tryd.pinned (OpenSpec.upto autoWellSpec)

end Rows
end Go.Proofs.YtddmddlaamcpiaaDoor
