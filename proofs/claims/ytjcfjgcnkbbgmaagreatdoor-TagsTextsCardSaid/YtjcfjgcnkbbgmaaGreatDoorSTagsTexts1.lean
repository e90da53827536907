/-
  Texts of the proof of TagsTexts, part 1 of 6: contracts and plain laws. Conditions: see each statement.
-/
import Derived.Shelf.Strings.SlTrimAscii
import Derived.Shelf.Strings.Builder1
import Derived.Shelf.Strings.Builder2
import Derived.Shelf.Small.Utf8
import Derived.Shelf.Small.Strs
import Derived.Shelf.Small.Wraps
import Derived.Shelf.Strings.BuilderF
import Derived.Shelf.Strings.BuilderK
import Derived.Shelf.Strconv.Itoa0
import Derived.Shelf.Strconv.Itoa1
import Derived.Shelf.LaysM
import Derived.Shelf.Strconv.Itoa2
import Derived.Shelf.Strconv.Itoa3
import Derived.Shelf.Strings.Search1
import Derived.Shelf.Strings.Search2
import Derived.Shelf.Strings.Search3
import Derived.Shelf.Strings.Cut
import Derived.Shelf.Strings.Count
import Derived.Shelf.Strings.Shaped
import Derived.Shelf.Strings.Prefix
import Derived.Shelf.Strings.Split
import Derived.Shelf.Strings.Runes
import Derived.Shelf.Strings.IndexAny
import Derived.Shelf.Strings.AsciiSet
import Derived.Shelf.Strings.IndexAnyAll
import Derived.Test.YtjcfjgcnkbbgmaaGreatDoorProg
import Derived.Shelf.Lays
import Derived.Below
import Derived.Deep.Draws
import Derived.Deep.AppendLies
import Derived.Maps.AppendAt
import Derived.OwnWalk
import Derived.Laws.BytesArg
import Derived.Laws.MakeOwn
import Derived.Laws.OwnMore
import Derived.Deep.OwnRows
import Derived.Tactics
import Derived.Lib.ConvBytes
import Derived.Laws.Slices
import Derived.WalkKit
import Derived.KernelRfl
import Derived.RowKit3
import Derived.Deep.LoopGhost
import Derived.Deep.QuietTactic
import Derived.BigQuiet
import Derived.WideLaws
import Derived.Deep.DeepCutAuto
import Derived.Deep.CutBlock
import Derived.Deep.RegionHeld3
import Derived.Laws.Rows
import Derived.Lib.AppendStr
import Derived.ArgAppend
import Derived.Laws.IdiomCopy
import Derived.OrdersHeld
import Derived.Laws.BitsLemmas
import Derived.RowKit
import Derived.Test.YtjcfjgcnkbbgmaaGreatDoorWWords
import Derived.Test.YtjcfjgcnkbbgmaaGreatDoorWLast
import Derived.Test.YtjcfjgcnkbbgmaaGreatDoorWTab
import Derived.Test.YtjcfjgcnkbbgmaaGreatDoorWFour
import Derived.Test.YtjcfjgcnkbbgmaaGreatDoorWQPut
import Derived.Test.YtjcfjgcnkbbgmaaGreatDoorWApart
import Derived.Test.YtjcfjgcnkbbgmaaGreatDoorWArr
import Derived.Test.YtjcfjgcnkbbgmaaGreatDoorWZeros
import Derived.Test.YtjcfjgcnkbbgmaaGreatDoorWFoot
import Derived.Test.YtjcfjgcnkbbgmaaGreatDoorWKept
import Derived.Test.YtjcfjgcnkbbgmaaGreatDoorWShare
import Derived.Test.YtjcfjgcnkbbgmaaGreatDoorWN
import Derived.Test.YtjcfjgcnkbbgmaaGreatDoorWFootNe
import Derived.Test.YtjcfjgcnkbbgmaaGreatDoorWAt
import Derived.Test.YtjcfjgcnkbbgmaaGreatDoorWEqStruct
import Derived.Test.YtjcfjgcnkbbgmaaGreatDoorWRepsOne
import Derived.Test.YtjcfjgcnkbbgmaaGreatDoorWInv
import Derived.Test.YtjcfjgcnkbbgmaaGreatDoorWInvWords
import Derived.Test.YtjcfjgcnkbbgmaaGreatDoorWGuard
import Derived.Test.YtjcfjgcnkbbgmaaGreatDoorWNEv
import Derived.Test.YtjcfjgcnkbbgmaaGreatDoorWMore
import Derived.Lib.Strings
import Derived.Shelf.Unicode.DecodeSlow
import Derived.Lib.LaidTab
import Derived.Shelf.Vars
import Derived.Test.YtjcfjgcnkbbgmaaGreatDoorCards
import Derived.Test.YtjcfjgcnkbbgmaaGreatDoorTie
import Derived.ProofKit
import Derived.OpenShut
import Derived.ShutString
import Derived.ChangeOld
import Derived.SizedLaws
import Derived.Deep.DeepHandedRow
import Derived.Lib.LaidU8
import Derived.Test.YtjcfjgcnkbbgmaaGreatDoorWSized
import Derived.LaidByText
import Derived.Deep.DeepWitnessRowRef
import Derived.Lib.SplitLaws
import Derived.BigCall
import Derived.Laws.Runes
import Derived.Lib.OthersKept
import Derived.Outline
import Derived.IntWalk
import Derived.Lib.DecodeNEq
set_option linter.unusedVariables false
set_option linter.unusedVariables false
namespace Go.Proofs
open Go.Shelf
def Tryz.lays167_ren : Go.Shelf.Ren := ⟨fun | 167 => 17 | 240 => 29 | 276 => 40 | n => n, fun | 0 => 0 | 4 => 4 | 5 => 5 | 9 => 9 | 20 => 20 | 37 => 41 | 70 => 40 | 72 => 43 | 75 => 47 | 80 => 50 | 164 => 73 | n => n, fun | 1 => 0 | 17 => 1 | 18 => 2 | 19 => 3 | n => n⟩
theorem Tryz.lays167 : Go.Proofs.Lays.n167 Tryz.prog Tryz.lays167_ren := {
  mixed := by kernel_rfl,
  f167 := Tryz.func17.trans (congrArg some (by kernel_rfl)),
  f240 := Tryz.func29.trans (congrArg some (by kernel_rfl)),
  f276 := Tryz.func40.trans (congrArg some (by kernel_rfl)),
  t0 := Tryz.underlying0,
  a0 := Tryz.isAgg0,
  z0 := Tryz.sizeOf0,
  v0 := Tryz.zeroValue0,
  t4 := Tryz.underlying4,
  a4 := Tryz.isAgg4,
  z4 := Tryz.sizeOf4,
  v4 := Tryz.zeroValue4,
  t5 := Tryz.underlying5,
  a5 := Tryz.isAgg5,
  z5 := Tryz.sizeOf5,
  v5 := Tryz.zeroValue5,
  t9 := Tryz.underlying9,
  a9 := Tryz.isAgg9,
  z9 := Tryz.sizeOf9,
  v9 := Tryz.zeroValue9,
  t20 := Tryz.underlying20,
  a20 := Tryz.isAgg20,
  z20 := Tryz.sizeOf20,
  v20 := Tryz.zeroValue20,
  t37 := Tryz.underlying41,
  a37 := Tryz.isAgg41,
  z37 := Tryz.sizeOf41,
  v37 := Tryz.zeroValue41,
  t70 := Tryz.underlying40,
  a70 := Tryz.isAgg40,
  z70 := Tryz.sizeOf40,
  v70 := Tryz.zeroValue40,
  t72 := Tryz.underlying43,
  a72 := Tryz.isAgg43,
  z72 := Tryz.sizeOf43,
  v72 := Tryz.zeroValue43,
  t75 := Tryz.underlying47,
  a75 := Tryz.isAgg47,
  z75 := Tryz.sizeOf47,
  v75 := Tryz.zeroValue47,
  t164 := Tryz.underlying73,
  a164 := Tryz.isAgg73,
  z164 := Tryz.sizeOf73,
  v164 := Tryz.zeroValue73 }
theorem Tryz.Builder_Extra_167 : Builder.Extra Tryz.prog Tryz.lays167_ren := {
  sizeBuilder := by kernel_rfl,
  liesBuilder := by kernel_rfl,
  t5 := Tryz.underlying5,
  a5 := Tryz.isAgg5,
  z5 := Tryz.sizeOf5,
  v5 := Tryz.zeroValue5,
  infoByte := by kernel_rfl,
  cellsByte := by kernel_rfl,
  sizeByte := by kernel_rfl,
  neB5 := by decide }
open Go.RowKit in
theorem Tryz.Builder_WriteByte (B b : Nat) (bs : List Value) (c : Int) (w : World) (h : Lib.IsBuilder 43 5 B b bs w) (hlen : bs.length + 1 ≤ 140737488355328) (hBw : B ≤ w.heap.size) :
    Calls Tryz.prog 17 #[.pointer (some ⟨b, 0, none⟩), .int .u8 c] w fun e w' => e = .returned .nilIface ∧ (Lib.BuilderAt 43 5 B b (.pointer (some ⟨b, 0, none⟩)) (bs ++ [.int .u8 c]) w' ∧ Below B w w') := Any.Builder_WriteByte Tryz.lays167 Tryz.Builder_Extra_167 B b bs c w h hlen hBw
def Tryz.lays166_ren : Go.Shelf.Ren := ⟨fun | 166 => 41 | 240 => 29 | 276 => 40 | n => n, fun | 0 => 0 | 3 => 3 | 4 => 4 | 5 => 5 | 9 => 9 | 20 => 20 | 37 => 41 | 70 => 40 | 72 => 43 | 75 => 47 | 80 => 50 | 164 => 73 | n => n, fun | 1 => 0 | 17 => 1 | 18 => 2 | 19 => 3 | n => n⟩
theorem Tryz.lays166 : Go.Proofs.Lays.n166 Tryz.prog Tryz.lays166_ren := {
  mixed := by kernel_rfl,
  f166 := Tryz.func41.trans (congrArg some (by kernel_rfl)),
  f240 := Tryz.func29.trans (congrArg some (by kernel_rfl)),
  f276 := Tryz.func40.trans (congrArg some (by kernel_rfl)),
  t0 := Tryz.underlying0,
  a0 := Tryz.isAgg0,
  z0 := Tryz.sizeOf0,
  v0 := Tryz.zeroValue0,
  t3 := Tryz.underlying3,
  a3 := Tryz.isAgg3,
  z3 := Tryz.sizeOf3,
  v3 := Tryz.zeroValue3,
  t4 := Tryz.underlying4,
  a4 := Tryz.isAgg4,
  z4 := Tryz.sizeOf4,
  v4 := Tryz.zeroValue4,
  t9 := Tryz.underlying9,
  a9 := Tryz.isAgg9,
  z9 := Tryz.sizeOf9,
  v9 := Tryz.zeroValue9,
  t20 := Tryz.underlying20,
  a20 := Tryz.isAgg20,
  z20 := Tryz.sizeOf20,
  v20 := Tryz.zeroValue20,
  t37 := Tryz.underlying41,
  a37 := Tryz.isAgg41,
  z37 := Tryz.sizeOf41,
  v37 := Tryz.zeroValue41,
  t70 := Tryz.underlying40,
  a70 := Tryz.isAgg40,
  z70 := Tryz.sizeOf40,
  v70 := Tryz.zeroValue40,
  t72 := Tryz.underlying43,
  a72 := Tryz.isAgg43,
  z72 := Tryz.sizeOf43,
  v72 := Tryz.zeroValue43,
  t75 := Tryz.underlying47,
  a75 := Tryz.isAgg47,
  z75 := Tryz.sizeOf47,
  v75 := Tryz.zeroValue47,
  t164 := Tryz.underlying73,
  a164 := Tryz.isAgg73,
  z164 := Tryz.sizeOf73,
  v164 := Tryz.zeroValue73 }
theorem Tryz.Builder_Extra_166 : Builder.Extra Tryz.prog Tryz.lays166_ren := {
  sizeBuilder := by kernel_rfl,
  liesBuilder := by kernel_rfl,
  t5 := Tryz.underlying5,
  a5 := Tryz.isAgg5,
  z5 := Tryz.sizeOf5,
  v5 := Tryz.zeroValue5,
  infoByte := by kernel_rfl,
  cellsByte := by kernel_rfl,
  sizeByte := by kernel_rfl,
  neB5 := by decide }
open Go.RowKit in
theorem Tryz.Builder_WriteString (B b : Nat) (bs : List Value) (s : ByteArray) (w : World) (h : Lib.IsBuilder 43 5 B b bs w) (hlen : bs.length + s.size ≤ 140737488355328) (hBw : B ≤ w.heap.size) :
    Calls Tryz.prog 41 #[.pointer (some ⟨b, 0, none⟩), .string s] w fun e w' => e = .returned (.tuple #[.int .i64 s.size, .nilIface]) ∧ (Lib.BuilderAt 43 5 B b (.pointer (some ⟨b, 0, none⟩)) (bs ++ Lib.strCells s) w' ∧ Below B w w') := Any.Builder_WriteString Tryz.lays166 Tryz.Builder_Extra_166 B b bs s w h hlen hBw
def Tryz.lays169_ren : Go.Shelf.Ren := ⟨fun | 169 => 18 | n => n, fun | 0 => 0 | 3 => 3 | 5 => 5 | 9 => 9 | 37 => 41 | 70 => 40 | 72 => 43 | 127 => 64 | n => n, fun | 1 => 0 | 17 => 1 | 18 => 2 | 19 => 3 | n => n⟩
theorem Tryz.lays169 : Go.Proofs.Lays.n169 Tryz.prog Tryz.lays169_ren := {
  mixed := by kernel_rfl,
  f169 := Tryz.func18.trans (congrArg some (by kernel_rfl)),
  t0 := Tryz.underlying0,
  a0 := Tryz.isAgg0,
  z0 := Tryz.sizeOf0,
  v0 := Tryz.zeroValue0,
  t3 := Tryz.underlying3,
  a3 := Tryz.isAgg3,
  z3 := Tryz.sizeOf3,
  v3 := Tryz.zeroValue3,
  t9 := Tryz.underlying9,
  a9 := Tryz.isAgg9,
  z9 := Tryz.sizeOf9,
  v9 := Tryz.zeroValue9,
  t37 := Tryz.underlying41,
  a37 := Tryz.isAgg41,
  z37 := Tryz.sizeOf41,
  v37 := Tryz.zeroValue41,
  t70 := Tryz.underlying40,
  a70 := Tryz.isAgg40,
  z70 := Tryz.sizeOf40,
  v70 := Tryz.zeroValue40,
  t72 := Tryz.underlying43,
  a72 := Tryz.isAgg43,
  z72 := Tryz.sizeOf43,
  v72 := Tryz.zeroValue43,
  t127 := Tryz.underlying64,
  a127 := Tryz.isAgg64,
  z127 := Tryz.sizeOf64,
  v127 := Tryz.zeroValue64 }
theorem Tryz.Builder_Extra_169 : Builder.Extra Tryz.prog Tryz.lays169_ren := {
  sizeBuilder := by kernel_rfl,
  liesBuilder := by kernel_rfl,
  t5 := Tryz.underlying5,
  a5 := Tryz.isAgg5,
  z5 := Tryz.sizeOf5,
  v5 := Tryz.zeroValue5,
  infoByte := by kernel_rfl,
  cellsByte := by kernel_rfl,
  sizeByte := by kernel_rfl,
  neB5 := by decide }
open Go.RowKit in
theorem Tryz.Builder_String_any (B b : Nat) (l : List UInt8) (w : World) (h : Lib.IsBuilder 43 5 B b (Lib.byteCells l) w) (hBw : B ≤ w.heap.size) :
    Calls Tryz.prog 18 #[.pointer (some ⟨b, 0, none⟩)] w fun e w' => e = .returned (.string ⟨l.toArray⟩) ∧ Below B w w' := Any.Builder_String_any Tryz.lays169 Tryz.Builder_Extra_169 B b l w h hBw
def Tryz.lays119_ren : Go.Shelf.Ren := ⟨fun | 119 => 85 | n => n, fun | 4 => 4 | 21 => 21 | n => n, fun | 1 => 0 | 17 => 1 | 18 => 2 | 19 => 3 | n => n⟩
theorem Tryz.lays119 : Go.Proofs.Lays.n119 Tryz.prog Tryz.lays119_ren := {
  mixed := by kernel_rfl,
  f119 := Tryz.func85.trans (congrArg some (by kernel_rfl)),
  t4 := Tryz.underlying4,
  a4 := Tryz.isAgg4,
  z4 := Tryz.sizeOf4,
  v4 := Tryz.zeroValue4,
  t21 := Tryz.underlying21,
  a21 := Tryz.isAgg21,
  z21 := Tryz.sizeOf21,
  v21 := Tryz.zeroValue21 }
theorem Tryz.utf8_ValidRune (r : Int) (w : World) :
    Calls Tryz.prog 85 #[.int .i32 r] w fun e w' => e = .returned (.bool (Lib.validRune r)) ∧ w' = w := Any.utf8_ValidRune Tryz.lays119 r w
def Tryz.lays137_ren : Go.Shelf.Ren := ⟨fun | 137 => 44 | 217 => 54 | 266 => 62 | n => n, fun | 3 => 3 | 5 => 5 | 9 => 9 | n => n, fun | 1 => 0 | 17 => 1 | 18 => 2 | 19 => 3 | n => n⟩
theorem Tryz.lays137 : Go.Proofs.Lays.n137 Tryz.prog Tryz.lays137_ren := {
  mixed := by kernel_rfl,
  f137 := Tryz.func44.trans (congrArg some (by kernel_rfl)),
  f217 := Tryz.func54.trans (congrArg some (by kernel_rfl)),
  f266 := Tryz.func62.trans (congrArg some (by kernel_rfl)),
  t3 := Tryz.underlying3,
  a3 := Tryz.isAgg3,
  z3 := Tryz.sizeOf3,
  v3 := Tryz.zeroValue3,
  t5 := Tryz.underlying5,
  a5 := Tryz.isAgg5,
  z5 := Tryz.sizeOf5,
  v5 := Tryz.zeroValue5,
  t9 := Tryz.underlying9,
  a9 := Tryz.isAgg9,
  z9 := Tryz.sizeOf9,
  v9 := Tryz.zeroValue9 }
open Go.RowKit in
theorem Tryz.strings_IndexByte (s : ByteArray) (c : Int) (w : World) :
    Calls Tryz.prog 44 #[.string s, .int .u8 c] w fun e w' => e = .returned (.int .i64 (Lib.indexByte s.data.toList c.toNat.toUInt8)) ∧ w' = w := Any.strings_IndexByte Tryz.lays137 s c w
def Tryz.lays103_ren : Go.Shelf.Ren := ⟨fun | 103 => 20 | 206 => 50 | 210 => 37 | n => n, fun | 3 => 3 | 4 => 4 | 9 => 9 | 24 => 55 | n => n, fun | 1 => 0 | 17 => 1 | 18 => 2 | 19 => 3 | n => n⟩
theorem Tryz.lays103 : Go.Proofs.Lays.n103 Tryz.prog Tryz.lays103_ren := {
  mixed := by kernel_rfl,
  f103 := Tryz.func20.trans (congrArg some (by kernel_rfl)),
  f206 := Tryz.func50.trans (congrArg some (by kernel_rfl)),
  f210 := Tryz.func37.trans (congrArg some (by kernel_rfl)),
  t3 := Tryz.underlying3,
  a3 := Tryz.isAgg3,
  z3 := Tryz.sizeOf3,
  v3 := Tryz.zeroValue3,
  t4 := Tryz.underlying4,
  a4 := Tryz.isAgg4,
  z4 := Tryz.sizeOf4,
  v4 := Tryz.zeroValue4,
  t9 := Tryz.underlying9,
  a9 := Tryz.isAgg9,
  z9 := Tryz.sizeOf9,
  v9 := Tryz.zeroValue9,
  t24 := Tryz.underlying55,
  a24 := Tryz.isAgg55,
  z24 := Tryz.sizeOf55,
  v24 := Tryz.zeroValue55 }
open Go.RowKit in
theorem Tryz.strings_CutPrefix (s p : ByteArray) (w : World) :
    Calls Tryz.prog 20 #[.string s, .string p] w fun e w' => e = .returned (.tuple #[.string ⟨(Lib.trimPrefix s.data.toList p.data.toList).toArray⟩, .bool (Lib.hasPrefix s.data.toList p.data.toList)]) ∧ w' = w := Any.strings_CutPrefix Tryz.lays103 s p w
open Go.RowKit in
theorem Tryz.Builder_WriteByte_k (B b : Nat) (bs : List Value) (c : Int) (w : World) (h : Lib.IsBuilderF 43 5 B b bs w) (hlen : bs.length + 1 ≤ 140737488355328) (hBw : B ≤ w.heap.size) :
    Calls Tryz.prog 17 #[.pointer (some ⟨b, 0, none⟩), .int .u8 c] w fun e w' => e = .returned .nilIface ∧ (Lib.BuilderAtF 43 5 B b (.pointer (some ⟨b, 0, none⟩)) (bs ++ [.int .u8 c]) w' ∧ Below B w w' ∧ Lib.OthersKept 5 (some b) w w') := Any.Builder_WriteByte_k Tryz.lays167 Tryz.Builder_Extra_167 B b bs c w h hlen hBw
open Go.RowKit in
theorem Tryz.Builder_WriteString_k (B b : Nat) (bs : List Value) (s : ByteArray) (w : World) (h : Lib.IsBuilderF 43 5 B b bs w) (hlen : bs.length + s.size ≤ 140737488355328) (hBw : B ≤ w.heap.size) :
    Calls Tryz.prog 41 #[.pointer (some ⟨b, 0, none⟩), .string s] w fun e w' => e = .returned (.tuple #[.int .i64 s.size, .nilIface]) ∧ (Lib.BuilderAtF 43 5 B b (.pointer (some ⟨b, 0, none⟩)) (bs ++ Lib.strCells s) w' ∧ Below B w w' ∧ Lib.OthersKept 5 (some b) w w') := Any.Builder_WriteString_k Tryz.lays166 Tryz.Builder_Extra_166 B b bs s w h hlen hBw
open Go.RowKit in
theorem Tryz.Builder_String_any_k (B b : Nat) (l : List UInt8) (w : World) (h : Lib.IsBuilderF 43 5 B b (Lib.byteCells l) w) (hBw : B ≤ w.heap.size) :
    Calls Tryz.prog 18 #[.pointer (some ⟨b, 0, none⟩)] w fun e w' => e = .returned (.string ⟨l.toArray⟩) ∧ (Lib.IsBuilderF 43 5 B b (Lib.byteCells l) w' ∧ Below B w w' ∧ Lib.OthersKept 5 (some b) w w') := Any.Builder_String_any_k Tryz.lays169 Tryz.Builder_Extra_169 B b l w h hBw
def Tryz.lays171_ren : Go.Shelf.Ren := ⟨fun | 129 => 110 | 171 => 59 | 243 => 67 | 246 => 81 | 283 => 94 | 284 => 95 | 285 => 96 | 286 => 97 | 317 => 109 | 318 => 111 | 319 => 112 | 320 => 113 | 337 => 121 | 338 => 122 | n => n, fun | 0 => 0 | 2 => 2 | 3 => 3 | 4 => 4 | 5 => 5 | 9 => 9 | 20 => 20 | 37 => 41 | 46 => 79 | 51 => 89 | 53 => 147 | 171 => 146 | 173 => 150 | 212 => 165 | 213 => 166 | 232 => 171 | 233 => 172 | n => n, fun | 1 => 0 | 17 => 1 | 18 => 2 | 19 => 3 | n => n⟩
theorem Tryz.lays171 : Go.Proofs.Lays.n171 Tryz.prog Tryz.lays171_ren := {
  mixed := by kernel_rfl,
  f129 := Tryz.func110.trans (congrArg some (by kernel_rfl)),
  f171 := Tryz.func59.trans (congrArg some (by kernel_rfl)),
  f243 := Tryz.func67.trans (congrArg some (by kernel_rfl)),
  f246 := Tryz.func81.trans (congrArg some (by kernel_rfl)),
  f283 := Tryz.func94.trans (congrArg some (by kernel_rfl)),
  f284 := Tryz.func95.trans (congrArg some (by kernel_rfl)),
  f285 := Tryz.func96.trans (congrArg some (by kernel_rfl)),
  f286 := Tryz.func97.trans (congrArg some (by kernel_rfl)),
  f317 := Tryz.func109.trans (congrArg some (by kernel_rfl)),
  f318 := Tryz.func111.trans (congrArg some (by kernel_rfl)),
  f319 := Tryz.func112.trans (congrArg some (by kernel_rfl)),
  f320 := Tryz.func113.trans (congrArg some (by kernel_rfl)),
  f337 := Tryz.func121.trans (congrArg some (by kernel_rfl)),
  f338 := Tryz.func122.trans (congrArg some (by kernel_rfl)),
  t0 := Tryz.underlying0,
  a0 := Tryz.isAgg0,
  z0 := Tryz.sizeOf0,
  v0 := Tryz.zeroValue0,
  t2 := Tryz.underlying2,
  a2 := Tryz.isAgg2,
  z2 := Tryz.sizeOf2,
  v2 := Tryz.zeroValue2,
  t3 := Tryz.underlying3,
  a3 := Tryz.isAgg3,
  z3 := Tryz.sizeOf3,
  v3 := Tryz.zeroValue3,
  t4 := Tryz.underlying4,
  a4 := Tryz.isAgg4,
  z4 := Tryz.sizeOf4,
  v4 := Tryz.zeroValue4,
  t5 := Tryz.underlying5,
  a5 := Tryz.isAgg5,
  z5 := Tryz.sizeOf5,
  v5 := Tryz.zeroValue5,
  t9 := Tryz.underlying9,
  a9 := Tryz.isAgg9,
  z9 := Tryz.sizeOf9,
  v9 := Tryz.zeroValue9,
  t20 := Tryz.underlying20,
  a20 := Tryz.isAgg20,
  z20 := Tryz.sizeOf20,
  v20 := Tryz.zeroValue20,
  t37 := Tryz.underlying41,
  a37 := Tryz.isAgg41,
  z37 := Tryz.sizeOf41,
  v37 := Tryz.zeroValue41,
  t46 := Tryz.underlying79,
  a46 := Tryz.isAgg79,
  z46 := Tryz.sizeOf79,
  v46 := Tryz.zeroValue79,
  t51 := Tryz.underlying89,
  a51 := Tryz.isAgg89,
  z51 := Tryz.sizeOf89,
  v51 := Tryz.zeroValue89,
  t53 := Tryz.underlying147,
  a53 := Tryz.isAgg147,
  z53 := Tryz.sizeOf147,
  v53 := Tryz.zeroValue147,
  t171 := Tryz.underlying146,
  a171 := Tryz.isAgg146,
  z171 := Tryz.sizeOf146,
  v171 := Tryz.zeroValue146,
  t173 := Tryz.underlying150,
  a173 := Tryz.isAgg150,
  z173 := Tryz.sizeOf150,
  v173 := Tryz.zeroValue150,
  t212 := Tryz.underlying165,
  a212 := Tryz.isAgg165,
  z212 := Tryz.sizeOf165,
  v212 := Tryz.zeroValue165,
  t213 := Tryz.underlying166,
  a213 := Tryz.isAgg166,
  z213 := Tryz.sizeOf166,
  t232 := Tryz.underlying171,
  a232 := Tryz.isAgg171,
  z232 := Tryz.sizeOf171,
  v232 := Tryz.zeroValue171,
  t233 := Tryz.underlying172,
  a233 := Tryz.isAgg172,
  z233 := Tryz.sizeOf172,
  v233 := Tryz.zeroValue172,
  g17 := by kernel_rfl,
  g18 := by kernel_rfl,
  g19 := by kernel_rfl }
def Tryz.lays145_ren : Go.Shelf.Ren := ⟨fun | 145 => 52 | 217 => 54 | 219 => 68 | 220 => 60 | 224 => 83 | 225 => 82 | 266 => 62 | 267 => 84 | 314 => 98 | n => n, fun | 3 => 3 | 4 => 4 | 5 => 5 | 9 => 9 | 46 => 79 | 51 => 89 | 59 => 85 | 146 => 152 | n => n, fun | 1 => 0 | 17 => 1 | 18 => 2 | 19 => 3 | n => n⟩
theorem Tryz.lays145 : Go.Proofs.Lays.n145 Tryz.prog Tryz.lays145_ren := {
  mixed := by kernel_rfl,
  f145 := Tryz.func52.trans (congrArg some (by kernel_rfl)),
  f217 := Tryz.func54.trans (congrArg some (by kernel_rfl)),
  f219 := Tryz.func68.trans (congrArg some (by kernel_rfl)),
  f220 := Tryz.func60.trans (congrArg some (by kernel_rfl)),
  f224 := Tryz.func83.trans (congrArg some (by kernel_rfl)),
  f225 := Tryz.func82.trans (congrArg some (by kernel_rfl)),
  f266 := Tryz.func62.trans (congrArg some (by kernel_rfl)),
  f267 := Tryz.func84.trans (congrArg some (by kernel_rfl)),
  f314 := Tryz.func98.trans (congrArg some (by kernel_rfl)),
  t3 := Tryz.underlying3,
  a3 := Tryz.isAgg3,
  z3 := Tryz.sizeOf3,
  v3 := Tryz.zeroValue3,
  t4 := Tryz.underlying4,
  a4 := Tryz.isAgg4,
  z4 := Tryz.sizeOf4,
  v4 := Tryz.zeroValue4,
  t5 := Tryz.underlying5,
  a5 := Tryz.isAgg5,
  z5 := Tryz.sizeOf5,
  v5 := Tryz.zeroValue5,
  t9 := Tryz.underlying9,
  a9 := Tryz.isAgg9,
  z9 := Tryz.sizeOf9,
  v9 := Tryz.zeroValue9,
  t46 := Tryz.underlying79,
  a46 := Tryz.isAgg79,
  z46 := Tryz.sizeOf79,
  v46 := Tryz.zeroValue79,
  t51 := Tryz.underlying89,
  a51 := Tryz.isAgg89,
  z51 := Tryz.sizeOf89,
  v51 := Tryz.zeroValue89,
  t59 := Tryz.underlying85,
  a59 := Tryz.isAgg85,
  z59 := Tryz.sizeOf85,
  v59 := Tryz.zeroValue85,
  t146 := Tryz.underlying152,
  a146 := Tryz.isAgg152,
  z146 := Tryz.sizeOf152,
  v146 := Tryz.zeroValue152,
  g1 := by kernel_rfl }
open Go.RowKit Go.Lib in
theorem Tryz.strings_Cut (s sep : ByteArray) (m : Int) (w : World) (hs : s.size < 4294967281) (hm : w.cell? ⟨0, 0, none⟩ = some (.int .i64 m)) :
    Calls Tryz.prog 52 #[.string s, .string sep] w fun e w' => e = .returned (.tuple #[.string ⟨(Lib.cut s.data.toList sep.data.toList).1.toArray⟩, .string ⟨(Lib.cut s.data.toList sep.data.toList).2.1.toArray⟩, .bool (Lib.cut s.data.toList sep.data.toList).2.2]) ∧ ∃ n, w' = w.drewN n := Any.strings_Cut Tryz.lays145 s sep m w hs hm
def Tryz.lays138_ren : Go.Shelf.Ren := ⟨fun | 138 => 153 | 143 => 156 | 195 => 154 | 217 => 54 | 218 => 155 | 219 => 68 | 224 => 83 | 225 => 82 | 266 => 62 | 267 => 84 | 314 => 98 | n => n, fun | 0 => 0 | 3 => 3 | 4 => 4 | 5 => 5 | 9 => 9 | 46 => 79 | 51 => 89 | 146 => 152 | n => n, fun | 1 => 0 | 17 => 1 | 18 => 2 | 19 => 3 | n => n⟩
theorem Tryz.lays138 : Go.Proofs.Lays.n138 Tryz.prog Tryz.lays138_ren := {
  mixed := by kernel_rfl,
  f138 := Tryz.func153.trans (congrArg some (by kernel_rfl)),
  f143 := Tryz.func156.trans (congrArg some (by kernel_rfl)),
  f195 := Tryz.func154.trans (congrArg some (by kernel_rfl)),
  f217 := Tryz.func54.trans (congrArg some (by kernel_rfl)),
  f218 := Tryz.func155.trans (congrArg some (by kernel_rfl)),
  f219 := Tryz.func68.trans (congrArg some (by kernel_rfl)),
  f224 := Tryz.func83.trans (congrArg some (by kernel_rfl)),
  f225 := Tryz.func82.trans (congrArg some (by kernel_rfl)),
  f266 := Tryz.func62.trans (congrArg some (by kernel_rfl)),
  f267 := Tryz.func84.trans (congrArg some (by kernel_rfl)),
  f314 := Tryz.func98.trans (congrArg some (by kernel_rfl)),
  t0 := Tryz.underlying0,
  a0 := Tryz.isAgg0,
  z0 := Tryz.sizeOf0,
  v0 := Tryz.zeroValue0,
  t3 := Tryz.underlying3,
  a3 := Tryz.isAgg3,
  z3 := Tryz.sizeOf3,
  v3 := Tryz.zeroValue3,
  t4 := Tryz.underlying4,
  a4 := Tryz.isAgg4,
  z4 := Tryz.sizeOf4,
  v4 := Tryz.zeroValue4,
  t5 := Tryz.underlying5,
  a5 := Tryz.isAgg5,
  z5 := Tryz.sizeOf5,
  v5 := Tryz.zeroValue5,
  t9 := Tryz.underlying9,
  a9 := Tryz.isAgg9,
  z9 := Tryz.sizeOf9,
  v9 := Tryz.zeroValue9,
  t46 := Tryz.underlying79,
  a46 := Tryz.isAgg79,
  z46 := Tryz.sizeOf79,
  v46 := Tryz.zeroValue79,
  t51 := Tryz.underlying89,
  a51 := Tryz.isAgg89,
  z51 := Tryz.sizeOf89,
  v51 := Tryz.zeroValue89,
  t146 := Tryz.underlying152,
  a146 := Tryz.isAgg152,
  z146 := Tryz.sizeOf152,
  v146 := Tryz.zeroValue152,
  g1 := by kernel_rfl }
open Go.RowKit Go.Lib in
theorem Tryz.strings_Count_one (s : ByteArray) (c : UInt8) (w : World) :
    Calls Tryz.prog 153 #[.string s, .string ⟨#[c]⟩] w fun e w' => e = .returned (.int .i64 (Lib.countByte s.data.toList c)) ∧ w' = w := Any.strings_Count_one Tryz.lays138 s c w
def Tryz.lays101_ren : Go.Shelf.Ren := ⟨fun | 101 => 79 | 206 => 50 | 208 => 92 | n => n, fun | 3 => 3 | 4 => 4 | 9 => 9 | n => n, fun | 1 => 0 | 17 => 1 | 18 => 2 | 19 => 3 | n => n⟩
theorem Tryz.lays101 : Go.Proofs.Lays.n101 Tryz.prog Tryz.lays101_ren := {
  mixed := by kernel_rfl,
  f101 := Tryz.func79.trans (congrArg some (by kernel_rfl)),
  f206 := Tryz.func50.trans (congrArg some (by kernel_rfl)),
  f208 := Tryz.func92.trans (congrArg some (by kernel_rfl)),
  t3 := Tryz.underlying3,
  a3 := Tryz.isAgg3,
  z3 := Tryz.sizeOf3,
  v3 := Tryz.zeroValue3,
  t4 := Tryz.underlying4,
  a4 := Tryz.isAgg4,
  z4 := Tryz.sizeOf4,
  v4 := Tryz.zeroValue4,
  t9 := Tryz.underlying9,
  a9 := Tryz.isAgg9,
  z9 := Tryz.sizeOf9,
  v9 := Tryz.zeroValue9 }
open Go.RowKit Go.Lib in
theorem Tryz.strings_TrimPrefix (s p : ByteArray) (w : World) :
    Calls Tryz.prog 79 #[.string s, .string p] w fun e w' => e = .returned (.string ⟨(Lib.trimPrefix s.data.toList p.data.toList).toArray⟩) ∧ w' = w := Any.strings_TrimPrefix Tryz.lays101 s p w
def Tryz.lays152_ren : Go.Shelf.Ren := ⟨fun | 119 => 85 | 137 => 44 | 152 => 69 | 217 => 54 | 224 => 83 | 225 => 82 | 266 => 62 | n => n, fun | 0 => 0 | 3 => 3 | 4 => 4 | 5 => 5 | 9 => 9 | 21 => 21 | 46 => 79 | n => n, fun | 1 => 0 | 17 => 1 | 18 => 2 | 19 => 3 | n => n⟩
theorem Tryz.lays152 : Go.Proofs.Lays.n152 Tryz.prog Tryz.lays152_ren := {
  mixed := by kernel_rfl,
  f119 := Tryz.func85.trans (congrArg some (by kernel_rfl)),
  f137 := Tryz.func44.trans (congrArg some (by kernel_rfl)),
  f152 := Tryz.func69.trans (congrArg some (by kernel_rfl)),
  f217 := Tryz.func54.trans (congrArg some (by kernel_rfl)),
  f224 := Tryz.func83.trans (congrArg some (by kernel_rfl)),
  f225 := Tryz.func82.trans (congrArg some (by kernel_rfl)),
  f266 := Tryz.func62.trans (congrArg some (by kernel_rfl)),
  t0 := Tryz.underlying0,
  a0 := Tryz.isAgg0,
  z0 := Tryz.sizeOf0,
  v0 := Tryz.zeroValue0,
  t3 := Tryz.underlying3,
  a3 := Tryz.isAgg3,
  z3 := Tryz.sizeOf3,
  v3 := Tryz.zeroValue3,
  t4 := Tryz.underlying4,
  a4 := Tryz.isAgg4,
  z4 := Tryz.sizeOf4,
  v4 := Tryz.zeroValue4,
  t5 := Tryz.underlying5,
  a5 := Tryz.isAgg5,
  z5 := Tryz.sizeOf5,
  v5 := Tryz.zeroValue5,
  t9 := Tryz.underlying9,
  a9 := Tryz.isAgg9,
  z9 := Tryz.sizeOf9,
  v9 := Tryz.zeroValue9,
  t21 := Tryz.underlying21,
  a21 := Tryz.isAgg21,
  z21 := Tryz.sizeOf21,
  v21 := Tryz.zeroValue21,
  t46 := Tryz.underlying79,
  a46 := Tryz.isAgg79,
  z46 := Tryz.sizeOf79,
  v46 := Tryz.zeroValue79 }
open Go.RowKit Go.Lib in
theorem Tryz.strings_IndexRune_ascii (s : ByteArray) (r : Int) (w : World) (h0 : 0 ≤ r) (h1 : r < 128) :
    Calls Tryz.prog 69 #[.string s, .int .i32 r] w fun e w' => e = .returned (.int .i64 (Lib.indexByte s.data.toList r.toNat.toUInt8)) ∧ w' = w := Any.strings_IndexRune_ascii Tryz.lays152 s r w h0 h1
def Tryz.lays226_ren : Go.Shelf.Ren := ⟨fun | 226 => 70 | n => n, fun | 3 => 3 | 4 => 4 | n => n, fun | 1 => 0 | 17 => 1 | 18 => 2 | 19 => 3 | n => n⟩
theorem Tryz.lays226 : Go.Proofs.Lays.n226 Tryz.prog Tryz.lays226_ren := {
  mixed := by kernel_rfl,
  f226 := Tryz.func70.trans (congrArg some (by kernel_rfl)),
  t3 := Tryz.underlying3,
  a3 := Tryz.isAgg3,
  z3 := Tryz.sizeOf3,
  v3 := Tryz.zeroValue3,
  t4 := Tryz.underlying4,
  a4 := Tryz.isAgg4,
  z4 := Tryz.sizeOf4,
  v4 := Tryz.zeroValue4 }
open Go.RowKit Go.Lib in
theorem Tryz.strings_shouldUseASCIISet (n : Int) (w : World) :
    Calls Tryz.prog 70 #[.int .i64 n] w fun e w' => e = .returned (.bool (decide (8 < n))) ∧ w' = w := Any.strings_shouldUseASCIISet Tryz.lays226 n w
def Tryz.lays153_ren : Go.Shelf.Ren := ⟨fun | 119 => 85 | 137 => 44 | 152 => 69 | 153 => 61 | 217 => 54 | 224 => 83 | 225 => 82 | 226 => 70 | 227 => 71 | 228 => 72 | 266 => 62 | n => n, fun | 0 => 0 | 3 => 3 | 4 => 4 | 5 => 5 | 9 => 9 | 21 => 21 | 46 => 79 | 116 => 111 | 117 => 112 | 124 => 131 | n => n, fun | 1 => 0 | 17 => 1 | 18 => 2 | 19 => 3 | n => n⟩
theorem Tryz.lays153 : Go.Proofs.Lays.n153 Tryz.prog Tryz.lays153_ren := {
  mixed := by kernel_rfl,
  f119 := Tryz.func85.trans (congrArg some (by kernel_rfl)),
  f137 := Tryz.func44.trans (congrArg some (by kernel_rfl)),
  f152 := Tryz.func69.trans (congrArg some (by kernel_rfl)),
  f153 := Tryz.func61.trans (congrArg some (by kernel_rfl)),
  f217 := Tryz.func54.trans (congrArg some (by kernel_rfl)),
  f224 := Tryz.func83.trans (congrArg some (by kernel_rfl)),
  f225 := Tryz.func82.trans (congrArg some (by kernel_rfl)),
  f226 := Tryz.func70.trans (congrArg some (by kernel_rfl)),
  f227 := Tryz.func71.trans (congrArg some (by kernel_rfl)),
  f228 := Tryz.func72.trans (congrArg some (by kernel_rfl)),
  f266 := Tryz.func62.trans (congrArg some (by kernel_rfl)),
  t0 := Tryz.underlying0,
  a0 := Tryz.isAgg0,
  z0 := Tryz.sizeOf0,
  v0 := Tryz.zeroValue0,
  t3 := Tryz.underlying3,
  a3 := Tryz.isAgg3,
  z3 := Tryz.sizeOf3,
  v3 := Tryz.zeroValue3,
  t4 := Tryz.underlying4,
  a4 := Tryz.isAgg4,
  z4 := Tryz.sizeOf4,
  v4 := Tryz.zeroValue4,
  t5 := Tryz.underlying5,
  a5 := Tryz.isAgg5,
  z5 := Tryz.sizeOf5,
  v5 := Tryz.zeroValue5,
  t9 := Tryz.underlying9,
  a9 := Tryz.isAgg9,
  z9 := Tryz.sizeOf9,
  v9 := Tryz.zeroValue9,
  t21 := Tryz.underlying21,
  a21 := Tryz.isAgg21,
  z21 := Tryz.sizeOf21,
  v21 := Tryz.zeroValue21,
  t46 := Tryz.underlying79,
  a46 := Tryz.isAgg79,
  z46 := Tryz.sizeOf79,
  v46 := Tryz.zeroValue79,
  t116 := Tryz.underlying111,
  a116 := Tryz.isAgg111,
  z116 := Tryz.sizeOf111,
  t117 := Tryz.underlying112,
  a117 := Tryz.isAgg112,
  z117 := Tryz.sizeOf112,
  v117 := Tryz.zeroValue112,
  t124 := Tryz.underlying131,
  a124 := Tryz.isAgg131,
  z124 := Tryz.sizeOf131,
  v124 := Tryz.zeroValue131 }
open Go.RowKit Go.Lib in
theorem Tryz.strings_IndexAny_long (hv116 : ∀ w, (zeroValue 111).run Tryz.prog w = .ok (.agg (Array.replicate 256 (.bool false))) w) (s chars : ByteArray) (w : World) (h2 : 2 ≤ chars.size) (h8 : 8 < s.size) (hs : s.size < 4294967281) (hcs : chars.size < 4294967281) (hascii : ∀ (j : Nat) b, chars.data.toList[j]? = some b → b.toNat < 128) :
    Calls Tryz.prog 61 #[.string s, .string chars] w fun e w' => e = .returned (.int .i64 (Lib.indexAny s.data.toList chars.data.toList)) ∧ w' = ((w.alloc (.cells (Lib.setCells chars.data.toList) 111)).alloc (.cells (Lib.setCells chars.data.toList) 111)) := Any.strings_IndexAny_long Tryz.lays153 hv116 (by kernel_rfl) s chars w h2 h8 hs hcs hascii
open Go.RowKit Go.Lib in
theorem Tryz.strings_IndexAny (hv116 : ∀ w, (zeroValue 111).run Tryz.prog w = .ok (.agg (Array.replicate 256 (.bool false))) w) (s chars : ByteArray) (w : World) (hs : s.size < 4294967281) (hcs : chars.size < 4294967281) (has : ∀ (j : Nat) b, s.data.toList[j]? = some b → b.toNat < 128) (hac : ∀ (j : Nat) b, chars.data.toList[j]? = some b → b.toNat < 128) :
    Calls Tryz.prog 61 #[.string s, .string chars] w fun e w' => e = .returned (.int .i64 (Lib.indexAny s.data.toList chars.data.toList)) ∧ Below w.heap.size w w' := Any.strings_IndexAny Tryz.lays153 hv116 (by kernel_rfl) s chars w hs hcs has hac
def Tryz.lays150_ren : Go.Shelf.Ren := ⟨fun | 119 => 85 | 137 => 44 | 150 => 53 | 152 => 69 | 153 => 61 | 217 => 54 | 224 => 83 | 225 => 82 | 226 => 70 | 227 => 71 | 228 => 72 | 266 => 62 | n => n, fun | 0 => 0 | 3 => 3 | 4 => 4 | 5 => 5 | 9 => 9 | 21 => 21 | 46 => 79 | 116 => 111 | 117 => 112 | 124 => 131 | n => n, fun | 1 => 0 | 17 => 1 | 18 => 2 | 19 => 3 | n => n⟩
theorem Tryz.lays150 : Go.Proofs.Lays.n150 Tryz.prog Tryz.lays150_ren := {
  mixed := by kernel_rfl,
  f119 := Tryz.func85.trans (congrArg some (by kernel_rfl)),
  f137 := Tryz.func44.trans (congrArg some (by kernel_rfl)),
  f150 := Tryz.func53.trans (congrArg some (by kernel_rfl)),
  f152 := Tryz.func69.trans (congrArg some (by kernel_rfl)),
  f153 := Tryz.func61.trans (congrArg some (by kernel_rfl)),
  f217 := Tryz.func54.trans (congrArg some (by kernel_rfl)),
  f224 := Tryz.func83.trans (congrArg some (by kernel_rfl)),
  f225 := Tryz.func82.trans (congrArg some (by kernel_rfl)),
  f226 := Tryz.func70.trans (congrArg some (by kernel_rfl)),
  f227 := Tryz.func71.trans (congrArg some (by kernel_rfl)),
  f228 := Tryz.func72.trans (congrArg some (by kernel_rfl)),
  f266 := Tryz.func62.trans (congrArg some (by kernel_rfl)),
  t0 := Tryz.underlying0,
  a0 := Tryz.isAgg0,
  z0 := Tryz.sizeOf0,
  v0 := Tryz.zeroValue0,
  t3 := Tryz.underlying3,
  a3 := Tryz.isAgg3,
  z3 := Tryz.sizeOf3,
  v3 := Tryz.zeroValue3,
  t4 := Tryz.underlying4,
  a4 := Tryz.isAgg4,
  z4 := Tryz.sizeOf4,
  v4 := Tryz.zeroValue4,
  t5 := Tryz.underlying5,
  a5 := Tryz.isAgg5,
  z5 := Tryz.sizeOf5,
  v5 := Tryz.zeroValue5,
  t9 := Tryz.underlying9,
  a9 := Tryz.isAgg9,
  z9 := Tryz.sizeOf9,
  v9 := Tryz.zeroValue9,
  t21 := Tryz.underlying21,
  a21 := Tryz.isAgg21,
  z21 := Tryz.sizeOf21,
  v21 := Tryz.zeroValue21,
  t46 := Tryz.underlying79,
  a46 := Tryz.isAgg79,
  z46 := Tryz.sizeOf79,
  v46 := Tryz.zeroValue79,
  t116 := Tryz.underlying111,
  a116 := Tryz.isAgg111,
  z116 := Tryz.sizeOf111,
  t117 := Tryz.underlying112,
  a117 := Tryz.isAgg112,
  z117 := Tryz.sizeOf112,
  v117 := Tryz.zeroValue112,
  t124 := Tryz.underlying131,
  a124 := Tryz.isAgg131,
  z124 := Tryz.sizeOf131,
  v124 := Tryz.zeroValue131 }
open Go.RowKit Go.Lib in
theorem Tryz.strings_ContainsAny (hv116 : ∀ w, (zeroValue 111).run Tryz.prog w = .ok (.agg (Array.replicate 256 (.bool false))) w) (s chars : ByteArray) (w : World) (hs : s.size < 4294967281) (hcs : chars.size < 4294967281) (has : ∀ (j : Nat) b, s.data.toList[j]? = some b → b.toNat < 128) (hac : ∀ (j : Nat) b, chars.data.toList[j]? = some b → b.toNat < 128) :
    Calls Tryz.prog 53 #[.string s, .string chars] w fun e w' => e = .returned (.bool (Lib.containsAny s.data.toList chars.data.toList)) ∧ Below w.heap.size w w' := Any.strings_ContainsAny Tryz.lays150 hv116 (by kernel_rfl) s chars w hs hcs has hac
end Go.Proofs

namespace Go.Proofs.YtjcfjgcnkbbgmaaGreatDoor.PA
open Go.RowKit Go.Proofs.YtjcfjgcnkbbgmaaGreatDoorW.PrintWords Go.Proofs.YtjcfjgcnkbbgmaaGreatDoorW.PrintLast Go.Proofs.YtjcfjgcnkbbgmaaGreatDoorW.PrintMore
attribute [local go_sem] max2_int min2_int max_two min_two max_three min_three max_four min_four   -- for this text's walks alone
set_option linter.unusedVariables false
set_option linter.unusedSimpArgs false



def errW : Option Int → Value
  | none => .nilIface
  | some c => .iface 0 (.int .i64 c)
theorem errW_none : errW none = .nilIface := rfl
theorem errW_some (c : Int) : errW (some c) = .iface 0 (.int .i64 c) := rfl

theorem info63 : (Tryz.prog.info? 63).map (fun i => (i.zero, i.size, i.bytes)) = some (some (.agg #[(.string ⟨#[]⟩), (.string ⟨#[]⟩)]), 2, 32) := by kernel_rfl
/-! #### struct type 63 -/
structure S63 where
  f0 : ByteArray
  f1 : ByteArray
def k63 : Kd S63 := Kd.iso (Kd.pair Kd.string Kd.string) (fun x : S63 => (x.f0, x.f1))
theorem k63_open {w : World} {x : S63} {cs : List Value} (h : k63.K w x cs) : cs = [.string x.f0, .string x.f1] := by
  obtain ⟨_, _, rfl, rfl, rfl⟩ := h
  exact rfl
theorem k63_mkM (w : World) (base : Nat) (ok : Nat → Prop) (x : S63)  : k63.M w base ok x [.string x.f0, .string x.f1] := ⟨[.string x.f0], [.string x.f1], rfl, rfl, rfl⟩
/-! #### struct type 26, nested in itself -/
structure S26 where
  f0 : Int
  f1 : ByteArray
  f2 : ByteArray
  f3 : Int
  f4 : Int
  f5 : Bool
  f6 : (List S26)
def z26 : S26 := ⟨(0 : Int), (⟨#[]⟩ : ByteArray), (⟨#[]⟩ : ByteArray), (0 : Int), (0 : Int), false, ([] : List S26)⟩
def F26 (d : Kd S26) : Kd S26 := Kd.iso (Kd.pair (Kd.int .i64) (Kd.pair Kd.string (Kd.pair Kd.string (Kd.pair (Kd.int .i64) (Kd.pair (Kd.int .i64) (Kd.pair Kd.bool (Kd.slice 26 d))))))) (fun x : S26 => (x.f0, x.f1, x.f2, x.f3, x.f4, x.f5, x.f6))
theorem mono26 : Kd.Mono F26 := Kd.mono_iso _ (Kd.mono_pair (Kd.mono_const _) (Kd.mono_pair (Kd.mono_const _) (Kd.mono_pair (Kd.mono_const _) (Kd.mono_pair (Kd.mono_const _) (Kd.mono_pair (Kd.mono_const _) (Kd.mono_pair (Kd.mono_const _) (Kd.mono_slice 26 Kd.mono_id)))))))
theorem sub26 : Kd.Sub F26 [26] := Kd.sub_iso _ (Kd.sub_pair (Kd.sub_const _ (by decide)) (Kd.sub_pair (Kd.sub_const _ (by decide)) (Kd.sub_pair (Kd.sub_const _ (by decide)) (Kd.sub_pair (Kd.sub_const _ (by decide)) (Kd.sub_pair (Kd.sub_const _ (by decide)) (Kd.sub_pair (Kd.sub_const _ (by decide)) (Kd.sub_slice 26 (by decide) Kd.sub_id)))))))
theorem sz26 : ∀ n, (Kd.upto F26 7 [26] n).sz = 7 := Kd.upto_sz (fun _ => rfl)
def k26 : Kd S26 := Kd.fix F26 7 [26] sz26 (Kd.upto_E sub26)
theorem k26_open {w : World} {x : S26} {cs : List Value} (h : k26.K w x cs) : ∃ A6 c6, cs = [.int .i64 x.f0, .string x.f1, .string x.f2, .int .i64 x.f3, .int .i64 x.f4, .bool x.f5, .slice A6 x.f6.length c6] ∧ x.f6.length ≤ c6 ∧ k26.C w A6 x.f6.length x.f6 := by
  obtain ⟨n, h⟩ := h
  cases n with
  | zero => exact h.elim
  | succ n =>
    obtain ⟨_, _, rfl, rfl, ⟨_, _, rfl, rfl, ⟨_, _, rfl, rfl, ⟨_, _, rfl, rfl, ⟨_, _, rfl, rfl, ⟨_, _, rfl, rfl, ⟨A6, c6, rfl, l6, g6⟩⟩⟩⟩⟩⟩⟩ := h
    exact ⟨A6, c6, rfl, l6, Kd.fix_C g6⟩
theorem k26_mk (w : World) (x : S26) {A6 : Option Addr} {c6 : Nat} (l6 : x.f6.length ≤ c6) (g6 : k26.C w A6 x.f6.length x.f6) : k26.K w x [.int .i64 x.f0, .string x.f1, .string x.f2, .int .i64 x.f3, .int .i64 x.f4, .bool x.f5, .slice A6 x.f6.length c6] := by
  obtain ⟨n6, q6⟩ := Kd.fix_C_back mono26 g6
  have r6 := Kd.upto_C_le mono26 sz26 (show n6 ≤ n6 by omega) q6
  exact ⟨n6 + 1, ⟨[.int .i64 x.f0], [.string x.f1, .string x.f2, .int .i64 x.f3, .int .i64 x.f4, .bool x.f5, .slice A6 x.f6.length c6], rfl, rfl, ⟨[.string x.f1], [.string x.f2, .int .i64 x.f3, .int .i64 x.f4, .bool x.f5, .slice A6 x.f6.length c6], rfl, rfl, ⟨[.string x.f2], [.int .i64 x.f3, .int .i64 x.f4, .bool x.f5, .slice A6 x.f6.length c6], rfl, rfl, ⟨[.int .i64 x.f3], [.int .i64 x.f4, .bool x.f5, .slice A6 x.f6.length c6], rfl, rfl, ⟨[.int .i64 x.f4], [.bool x.f5, .slice A6 x.f6.length c6], rfl, rfl, ⟨[.bool x.f5], [.slice A6 x.f6.length c6], rfl, rfl, ⟨A6, c6, rfl, l6, r6⟩⟩⟩⟩⟩⟩⟩⟩
def rd_T26 (xs : List S26) (i : Int) : S26 := xs.getD i.toNat z26
theorem at_T26 {w : World} {A : Option Addr} {n : Nat} {xs : List S26} (h : Kd.C k26 w A n xs) (i : Int) (h0 : 0 ≤ i) (h1 : i < n) : ∃ ad A6 c6, A = some ad ∧ w.cell? (ad.add (i.toNat * 7)) = some (.int .i64 (rd_T26 xs i).f0) ∧ w.cell? ⟨(ad.add (i.toNat * 7)).block, (ad.add (i.toNat * 7)).off + 1, none⟩ = some (.string (rd_T26 xs i).f1) ∧ w.cell? ⟨(ad.add (i.toNat * 7)).block, (ad.add (i.toNat * 7)).off + 2, none⟩ = some (.string (rd_T26 xs i).f2) ∧ w.cell? ⟨(ad.add (i.toNat * 7)).block, (ad.add (i.toNat * 7)).off + 3, none⟩ = some (.int .i64 (rd_T26 xs i).f3) ∧ w.cell? ⟨(ad.add (i.toNat * 7)).block, (ad.add (i.toNat * 7)).off + 4, none⟩ = some (.int .i64 (rd_T26 xs i).f4) ∧ w.cell? ⟨(ad.add (i.toNat * 7)).block, (ad.add (i.toNat * 7)).off + 5, none⟩ = some (.bool (rd_T26 xs i).f5) ∧ w.cell? ⟨(ad.add (i.toNat * 7)).block, (ad.add (i.toNat * 7)).off + 6, none⟩ = some (.slice A6 (rd_T26 xs i).f6.length c6) ∧ (rd_T26 xs i).f6.length ≤ c6 ∧ k26.C w A6 (rd_T26 xs i).f6.length (rd_T26 xs i).f6 := by
  obtain ⟨ad, c, e, _, hK, hc0⟩ := Kd.C_get h z26 i h0 h1
  have hc : ∀ j u, c[j]? = some u → w.cell? (ad.add (i.toNat * 7 + j)) = some u := hc0
  obtain ⟨A6, c6, rfl, l6, g6⟩ := k26_open hK
  exact ⟨ad, A6, c6, e, hc 0 _ rfl, by rw [← add_field _ _ 1 (by omega)]; exact hc 1 _ rfl, by rw [← add_field _ _ 2 (by omega)]; exact hc 2 _ rfl, by rw [← add_field _ _ 3 (by omega)]; exact hc 3 _ rfl, by rw [← add_field _ _ 4 (by omega)]; exact hc 4 _ rfl, by rw [← add_field _ _ 5 (by omega)]; exact hc 5 _ rfl, by rw [← add_field _ _ 6 (by omega)]; exact hc 6 _ rfl, l6, g6⟩

end Go.Proofs.YtjcfjgcnkbbgmaaGreatDoor.PA

namespace Go.Proofs.YtjcfjgcnkbbgmaaGreatDoor.Pl
open Go.RowKit Go.Proofs.YtjcfjgcnkbbgmaaGreatDoorW.PrintWords

/-- A list of bytes as a text. -/
def B (l : List UInt8) : ByteArray := ⟨l.toArray⟩
theorem B_eta (a : ByteArray) : B a.data.toList = a := rfl
theorem B_data (l : List UInt8) : (B l).data.toList = l := by simp [B]
theorem B_toList (l : List UInt8) : (B l).toList = l := by rw [Lib.toList_data, B_data]
theorem B_size (l : List UInt8) : (B l).size = l.length := by show l.toArray.size = _; simp
theorem B_ext {a b : ByteArray} (h : a.data.toList = b.data.toList) : a = b := by rw [← B_eta a, ← B_eta b, h]
theorem B_append (l m : List UInt8) : B l ++ B m = B (l ++ m) := by
  apply B_ext
  rw [B_data, ByteArray.data_append, Array.toList_append, B_data, B_data]
theorem B_extract (l : List UInt8) (i j : Nat) : (B l).extract i j = B ((l.drop i).take (j - i)) := by
  apply B_ext
  rw [B_data, Lib.extract_data, B_data]
theorem B_from (l : List UInt8) (i n : Nat) (h : n = l.length) : (B l).extract i n = B (l.drop i) := by
  rw [B_extract, List.take_of_length_le (by simp; omega)]
theorem B_to (l : List UInt8) (j : Nat) : (B l).extract 0 j = B (l.take j) := by rw [B_extract, List.drop_zero, Nat.sub_zero]
theorem B_bt (l : List UInt8) (i : Nat) (h : i < l.length) : bt (B l) (i : Int) = ((l[i]'h).toNat : Int) := by
  unfold bt
  have hs := B_size l
  rw [dif_pos (by rw [Int.toNat_natCast]; omega)]
  have : (B l)[(i : Int).toNat]'(by rw [Int.toNat_natCast]; omega) = l[i]'h := by
    show (B l).data[(i : Int).toNat] = _
    simp [B]
  rw [this]
theorem w64 {x : Int} (h0 : -9223372036854775808 ≤ x) (h1 : x ≤ 9223372036854775807) : wrap64 x = x := by unfold wrap64; omega
theorem u8_eq (x : UInt8) (n : Nat) (h : n < 256) : ((x.toNat : Int) = (n : Int)) ↔ x = UInt8.ofNat n := by
  constructor
  · intro e
    apply UInt8.toNat_inj.1
    rw [UInt8.toNat_ofNat']
    omega
  · intro e
    subst e
    rw [UInt8.toNat_ofNat']
    omega
end Go.Proofs.YtjcfjgcnkbbgmaaGreatDoor.Pl

namespace Go.Proofs.YtjcfjgcnkbbgmaaGreatDoor.PA
open Go.RowKit Go.Proofs.YtjcfjgcnkbbgmaaGreatDoorW.PrintWords

theorem ex_then_ret {next : Act → World → Prop} {Q : Exit → Act → World → Prop} {a : Act} {w : World} (h : Q Exit.ret a w) : Exit.then next Q Exit.ret a w := h
theorem ex_block_ret {id : Nat} {Q : Exit → Act → World → Prop} {a : Act} {w : World} (h : Q Exit.ret a w) : Exit.inBlock id Q Exit.ret a w := h
theorem ex_noGoto_ret {Q : Exit → Act → World → Prop} {a : Act} {w : World} (h : Q Exit.ret a w) : Exit.noGoto Q Exit.ret a w := h
theorem retNe (l : List UInt8) : Ending.returned (Value.bool (!l.isEmpty)) = Ending.returned (Value.bool (l != ([] : List UInt8))) := by cases l <;> rfl
/-- internal/bytealg.MaxLen holds a whole number. -/
structure Laid (w : World) : Prop where
  ml : ∃ m : Int, w.cell? ⟨0, 0, none⟩ = some (.int .i64 m)
  size : 0 < w.heap.size
theorem Laid.go {w W : World} (h : Laid w) (hb : Below w.heap.size w W) : Laid W := by
  obtain ⟨m, hm⟩ := h.ml
  refine ⟨⟨m, ?_⟩, by have := h.size; have := hb.size; omega⟩
  rw [← hm]
  exact hb.cell (by have := h.size; show 0 < w.heap.size; omega)
end Go.Proofs.YtjcfjgcnkbbgmaaGreatDoor.PA

namespace Go.Proofs.YtjcfjgcnkbbgmaaGreatDoor.PA
open Go.RowKit Go.Proofs.YtjcfjgcnkbbgmaaGreatDoor.Pl Go.Proofs.YtjcfjgcnkbbgmaaGreatDoorW.PrintWords
set_option linter.unusedVariables false

/-- The table of powers of ten lies as the program's text lays it; internal/bytealg.MaxLen holds a whole number. -/
structure LaidW (w : World) : Prop where
  tab : Lib.TabIs Tryz.prog w "internal/strconv.uint64pow10" .u64 Lib.pow10Tab
  mx : Laid w
theorem tab_go {w W : World} (h : Lib.TabIs Tryz.prog w "internal/strconv.uint64pow10" .u64 Lib.pow10Tab) (hb : Below w.heap.size w W) : Lib.TabIs Tryz.prog W "internal/strconv.uint64pow10" .u64 Lib.pow10Tab := by
  unfold Lib.TabIs World.var? at h ⊢
  obtain ⟨g, hg, h⟩ := Option.bind_eq_some_iff.1 h
  rw [hg, Option.bind_some]
  have hlt : g < w.heap.size := by
    refine Nat.lt_of_not_le fun hle => ?_
    rw [Array.getElem?_eq_none hle] at h
    cases h
  rw [hb.block g hlt]
  exact h
theorem LaidW.go {w W : World} (h : LaidW w) (hb : Below w.heap.size w W) : LaidW W := ⟨tab_go h.tab hb, h.mx.go hb⟩
theorem lays171M : LaysM.n171 Tryz.prog Tryz.lays171_ren := { Tryz.lays171 with i0 := by kernel_rfl, i2 := by kernel_rfl, i3 := by kernel_rfl, i4 := by kernel_rfl, i5 := by kernel_rfl, i9 := by kernel_rfl, i20 := by kernel_rfl, i37 := by kernel_rfl, i46 := by kernel_rfl, i51 := by kernel_rfl, i53 := by kernel_rfl, i171 := by kernel_rfl, i173 := by kernel_rfl, i212 := by kernel_rfl, i232 := by kernel_rfl, i233 := by kernel_rfl, m17 := by kernel_rfl, m18 := by kernel_rfl, m19 := by kernel_rfl }
theorem itoa_any (n : Int) (h0 : -9223372036854775808 ≤ n) (h1 : n ≤ 9223372036854775807) (w : World) (hL : LaidW w) :
    Calls Tryz.prog 59 #[.int .i64 n] w fun e w' => e = .returned (.string (B (Lib.itoa n))) ∧ Below w.heap.size w w' := by
  refine (Any.strconv_Itoa lays171M n h0 h1 w hL.tab).mono ?_
  rintro e w' ⟨rfl, k, os, rfl⟩
  exact ⟨rfl, ⟨rfl, rfl, rfl, by simp [Go.Sort.grow], fun i hi => by simp only [Go.Sort.grow]; exact Array.getElem?_append_left hi⟩⟩
end Go.Proofs.YtjcfjgcnkbbgmaaGreatDoor.PA

namespace Go.Proofs.YtjcfjgcnkbbgmaaGreatDoor.RowU8
open Go.ChangeShapes Go.WideShapes Go.ChangeAt Go.RowKit Go.Lib

theorem own : ownKnob Tryz.prog.godebug = none := by kernel_rfl
theorem laidOut : laidOutB Tryz.prog = true := by kernel_rfl
theorem pow_eq : (Rows.laid_internal_strconv_uint64pow10 : DataW Unit) = tabData .u64 pow10Tab := by kernel_rfl
theorem laidOf {L : List (String × DataW Unit)} {W : World} (h : W.ShapedOpen Tryz.prog) (hL : laidMetH Tryz.prog L W) (hp : (L.all fun x => x.2.handleName?.isNone) = true)
    (h1 : ("internal/strconv.uint64pow10", (Rows.laid_internal_strconv_uint64pow10 : DataW Unit)) ∈ L) (_h2 : ("internal/strconv.uint64pow10", (Rows.laid_internal_strconv_uint64pow10 : DataW Unit)) ∈ L) : PA.LaidW W := by
  have hm : ∃ m : Int, W.cell? ⟨0, 0, none⟩ = some (.int .i64 m) :=
    cell_of_shapedOpen_int (t := 3) (zero := #[.int .i64 0]) h (of_decide_eq_true (by kernel_rfl)) (by kernel_rfl) rfl (by kernel_rfl) (by kernel_rfl) Tryz.underlying3
  obtain ⟨m, hm'⟩ := hm
  rw [MakeChecks.laidMetH_plain _ _ _ hp] at hL
  obtain ⟨g, t, cs, fuel, p, hg, hty, hvar, hd⟩ := laidMet.reads hL h1
  rw [pow_eq] at hd
  obtain rfl := Option.some.inj ((show Tryz.prog.globalNamed "internal/strconv.uint64pow10" = some 1 by kernel_rfl).symm.trans hg)
  obtain rfl := Option.some.inj ((show (Tryz.prog.globals[1]?).map (·.type) = some 165 by kernel_rfl).symm.trans hty)
  have hcs := cells_of_tab Tryz.underlying165 Tryz.underlying147 (by kernel_rfl) (by kernel_rfl) hd
  refine ⟨?_, ⟨m, hm'⟩, ?_⟩
  · unfold Lib.TabIs
    rw [hvar, ← hcs]
  · rcases Nat.lt_or_ge 0 W.heap.size with h' | h'
    · exact h'
    · simp [World.cell?, Array.getElem?_eq_none h'] at hm'
/-- A world for the witness: what the dump's own initialisers leave (where unicode/utf8.first is listed: it holds what its row says). -/
noncomputable def laidWorld (os : Os) : World := varsWorld Tryz.prog 200 (varsId Tryz.prog) os (fun _ _ => 0)
theorem laidWorld_os (os : Os) : (laidWorld os).os = os := by kernel_rfl
end Go.Proofs.YtjcfjgcnkbbgmaaGreatDoor.RowU8

namespace Go.Proofs.YtjcfjgcnkbbgmaaGreatDoor.PA
open Go.RowKit Go.Proofs.YtjcfjgcnkbbgmaaGreatDoorW.PrintWords

def strings_CutPrefix.f (a0 : ByteArray) (a1 : ByteArray) : Option (ByteArray × Bool) := some (⟨(Lib.trimPrefix a0.data.toList a1.data.toList).toArray⟩, Lib.hasPrefix a0.data.toList a1.data.toList)
theorem strings_CutPrefix.calls (a0 : ByteArray) (a1 : ByteArray) (r1 : ByteArray) (r2 : Bool) (w : World) (h : strings_CutPrefix.f a0 a1 = some (r1, r2)) :
    Calls Tryz.prog 20 #[.string a0, .string a1] w fun e w' => e = .returned (.tuple #[.string r1, .bool r2]) ∧ Drawn0 w w' := by
  unfold strings_CutPrefix.f at h
  have h2 := Option.some.inj h
  obtain ⟨rfl, rfl⟩ := Prod.mk.inj h2
  refine (Tryz.strings_CutPrefix a0 a1 w).mono ?_
  rintro e w' ⟨rfl, rfl⟩
  exact ⟨rfl, Drawn0.refl _⟩
def strings_Cut.f (a0 : ByteArray) (a1 : ByteArray) : Option (ByteArray × ByteArray × Bool) := if a0.size ≤ 4294967280 then some (⟨(Lib.cut a0.data.toList a1.data.toList).1.toArray⟩, ⟨(Lib.cut a0.data.toList a1.data.toList).2.1.toArray⟩, (Lib.cut a0.data.toList a1.data.toList).2.2) else none
theorem strings_Cut.calls (a0 : ByteArray) (a1 : ByteArray) (r1 : ByteArray) (r2 : ByteArray) (r3 : Bool) (w : World) (hLd : Laid w) (h : strings_Cut.f a0 a1 = some (r1, r2, r3)) :
    Calls Tryz.prog 52 #[.string a0, .string a1] w fun e w' => e = .returned (.tuple #[.string r1, .string r2, .bool r3]) ∧ Below w.heap.size w w' := by
  unfold strings_Cut.f at h
  split at h
  · rename_i hc
    have h2 := Option.some.inj h
    simp only [Prod.mk.injEq] at h2; obtain ⟨rfl, rfl, rfl⟩ := h2
    obtain ⟨m, hm⟩ := hLd.ml
    refine (Tryz.strings_Cut a0 a1 m w (by omega) hm).mono ?_
    rintro e w' ⟨rfl, n, rfl⟩
    exact ⟨rfl, pw_below_drewN (Below.refl _ _) n⟩
  · cases h
end Go.Proofs.YtjcfjgcnkbbgmaaGreatDoor.PA

namespace Go.Proofs.YtjcfjgcnkbbgmaaGreatDoor.PA
open Go.RowKit Go.Proofs.YtjcfjgcnkbbgmaaGreatDoorW.PrintWords Go.Proofs.YtjcfjgcnkbbgmaaGreatDoorW.PrintLast Go.Proofs.YtjcfjgcnkbbgmaaGreatDoorW.PrintMore
set_option linter.unusedVariables false

theorem ia_data (s : ByteArray) (i : Nat) (hi : i < s.size) : s.data.toList[i]? = some (s[i]'hi) := Lib.data_getElem? s i hi

set_option maxHeartbeats 1000000 in
set_option maxRecDepth 100000 in
theorem ia_bad (s : ByteArray) (w : World) (hs : s.size ≤ 4294967280) (ha : ∀ (j : Nat) b, s.data.toList[j]? = some b → b.toNat < 128) :
    Calls Tryz.prog 69 #[.string s, .int .i32 65533] w fun e w' => e = .returned (.int .i64 (-1)) ∧ Below w.heap.size w w' := by
  have HA := Aside0.mk ha
  clear ha
  go_enter Tryz.func69, Tryz.ntmps69
  go_wp2
  go_loopg [5, 6] s.size (fun g _ _ wx => ∃ i : Nat, i + g = s.size ∧ wx = w.iter s i)
  case atStart => exact ⟨0, by omega, rfl⟩
  case round =>
    obtain ⟨i, hig, rfl⟩ := hrel
    cases gk with
    | zero =>
      obtain rfl : i = s.size := by omega
      have hnx := run_next_end (P := Tryz.prog) w s s.size
      go_wp2
      go_ret
      exact ⟨rfl, (Below.refl _ w).alloc (Nat.le_refl _) _⟩
    | succ g =>
      have hi : i < s.size := by omega
      obtain ⟨x, hx⟩ : ∃ x : UInt8, s[i]'hi = x := ⟨_, rfl⟩
      have hx128 : x.toNat < 128 := HA.out i x (by rw [← hx]; exact ia_data s i hi)
      have hnx := fun ty => run_next_ascii (P := Tryz.prog) w s i ty hi (by rw [hx]; exact hx128)
      rw [hx] at hnx
      clear hx
      have hne : ((x.toNat : Int) == 65533) = false := beq_eq_false_iff_ne.2 (by omega)
      go_wp2
      go_roundg g
      case measure => omega
      case rel => exact ⟨i + 1, by omega, rfl⟩

theorem ia_none (l : List UInt8) (c : UInt8) (ha : ∀ (j : Nat) b, l[j]? = some b → b.toNat < 128) (hc : 128 ≤ c.toNat) : Lib.indexByte l c = -1 := by
  induction l with
  | nil => rfl
  | cons b l ih =>
    have h0 : b.toNat < 128 := ha 0 b rfl
    have hb : (b == c) = false := beq_eq_false_iff_ne.2 (fun e => by rw [e] at h0; omega)
    have := ih (fun j x hj => ha (j + 1) x hj)
    simp [Lib.indexByte, hb, this]

set_option maxHeartbeats 1000000 in
set_option maxRecDepth 100000 in
theorem ia_ill (s : ByteArray) (r : Int) (w : World) (h0 : 128 ≤ r) (h1 : r ≤ 1114111) (hv : Lib.validRune r = false) :
    Calls Tryz.prog 69 #[.string s, .int .i32 r] w fun e w' => e = .returned (.int .i64 (-1)) ∧ Below w.heap.size w w' := by
  have hne : (r == 65533) = false := beq_eq_false_iff_ne.2 (fun e => by subst e; simp [Lib.validRune] at hv)
  have h2 : decide (r < 128) = false := decide_eq_false (by omega)
  have h3 : decide (0 ≤ r) = true := decide_eq_true (by omega)
  go_enter Tryz.func69, Tryz.ntmps69
  go_wp2_with (go_at_call 85; refine (Tryz.utf8_ValidRune _ _).mono ?_; rintro e w' ⟨rfl, hw⟩; rw [hw, hv])
  go_ret
  exact ⟨rfl, Below.refl _ w⟩

set_option maxHeartbeats 1000000 in
set_option maxRecDepth 100000 in
theorem ia_hi (s : ByteArray) (r : Int) (w : World) (hs : s.size ≤ 4294967280) (h0 : 128 ≤ r) (h1 : r ≤ 1114111) (hv : Lib.validRune r = true) (hr : r ≠ 65533) (ha : ∀ (j : Nat) b, s.data.toList[j]? = some b → b.toNat < 128) :
    Calls Tryz.prog 69 #[.string s, .int .i32 r] w fun e w' => e = .returned (.int .i64 (-1)) ∧ Below w.heap.size w w' := by
  have hne : (r == 65533) = false := beq_eq_false_iff_ne.2 hr
  have h2 : decide (r < 128) = false := decide_eq_false (by omega)
  have h3 : decide (0 ≤ r) = true := decide_eq_true (by omega)
  have hvv : Utf8.valid r = true := by
    unfold Lib.validRune at hv
    unfold Utf8.valid
    simp at hv ⊢
    omega
  obtain ⟨e1, e2, e3⟩ := encode_facts r hvv h0
  clear hvv
  have HA := Aside0.mk ha
  clear ha hr
  obtain ⟨rs, hrs⟩ : ∃ rs, Utf8.encode r = rs := ⟨_, rfl⟩
  rw [hrs] at e1 e2 e3
  obtain ⟨n, hn⟩ : ∃ n, rs.size = n + 1 := ⟨rs.size - 1, by omega⟩
  have e4 : ∀ h : n < rs.size, 128 ≤ (rs[n]'h).toNat := by
    intro h
    have h' : rs.size - 1 < rs.size := by omega
    have := e3 h'
    simp only [show rs.size - 1 = n from by omega] at this
    exact this
  have E4 := Aside0.mk e4
  clear e3 e4
  go_enter Tryz.func69, Tryz.ntmps69
  go_wp2_with (go_at_call 85; refine (Tryz.utf8_ValidRune _ _).mono ?_; rintro e w' ⟨rfl, hw⟩; rw [hw, hv])
  subst hw
  go_step3
  go_wp2
  go_loopg [9, 10] 0 (fun g v9 v10 wx => v9 = .int .i64 (n : Int) ∧ v10 = .int .i64 0 ∧ wx = w')
  case atStart => exact ⟨rfl, rfl, rfl⟩
  case round =>
    obtain ⟨rfl, rfl, rfl⟩ := hrel
    by_cases hlt : n < s.size
    · have hn2 : n < rs.size := by omega
      have hq := E4.out hn2
      have hp := HA.out _ _ (ia_data s n hlt)
      have hpq : (((s[n]'hlt).toNat : Int) != ((rs[n]'hn2).toNat : Int)) = true := by rw [bne_iff_ne]; omega
      go_wp2
      go_step3
      go_wp2
      have HN := Aside0.mk hn
      clear hn
      have hqi0 : (0 : Int) ≤ (n : Int) := by omega
      have hqi1 : (n : Int) < (rs.size : Int) := by omega
      go_quiet (fail)
      obtain ⟨w1, hw1⟩ : ∃ w1, w1 = wr.drewN nq := ⟨_, rfl⟩
      rw [← hw1]
      have hbw : Below wr.heap.size wr w1 := by rw [hw1]; exact pw_below_drewN (Below.refl _ _) _
      clear hw1
      go_wp2
      have hq3 : (n : Int) + 1 ≤ (s.size : Int) := by omega
      have hq4 : (0 : Int) ≤ (n : Int) + 1 := by omega
      have hix : Lib.indexByte (s.extract (n + 1) s.size).data.toList rs[n] = -1 := by
        refine ia_none _ _ (fun j b hj => ?_) hq
        have hm : b ∈ s.data.toList := by
          have h1 : b ∈ (s.extract (n + 1) s.size).data.toList := List.mem_of_getElem? hj
          rw [Lib.extract_data] at h1
          exact List.mem_of_mem_drop (List.mem_of_mem_take h1)
        obtain ⟨j', hj'⟩ := List.getElem?_of_mem hm
        exact HA.out j' b hj'
      have hwr : IntKind.i64.wrap ((n : Int) + 1) = (n : Int) + 1 := IntWalk.i64_in _ (by omega)
      have htn : ((n : Int) + 1).toNat = n + 1 := by omega
      go_quiet ((go_at_call 44; exact Calls.quiet_of_same (Tryz.strings_IndexByte _ _ _)))
      clear hwr htn
      have hback : ((rs[n].toNat : Int)).toNat.toUInt8 = rs[n] := by simp
      rw [hback, hix]
      obtain ⟨w2, hw2⟩ : ∃ w2, w2 = w1.drewN nq := ⟨_, rfl⟩
      rw [← hw2]
      have hbw2 : Below wr.heap.size wr w2 := by rw [hw2]; exact pw_below_drewN hbw _
      clear hw2
      go_wp2
      repeat (first | refine ex_noGoto_ret ?_ | refine ex_block_ret ?_ | refine ex_then_ret ?_)
      go_ret
      exact ⟨rfl, hbw2⟩
    · go_wp2
      repeat (first | refine ex_noGoto_ret ?_ | refine ex_block_ret ?_ | refine ex_then_ret ?_)
      go_ret
      exact ⟨rfl, Below.refl _ _⟩

/-- A rune from 128 on is none of ASCII bytes. -/
theorem ia_far (s : ByteArray) (r : Int) (w : World) (hs : s.size ≤ 4294967280) (h0 : 128 ≤ r) (h1 : r ≤ 1114111) (ha : ∀ (j : Nat) b, s.data.toList[j]? = some b → b.toNat < 128) :
    Calls Tryz.prog 69 #[.string s, .int .i32 r] w fun e w' => e = .returned (.int .i64 (-1)) ∧ Below w.heap.size w w' := by
  by_cases hr : r = 65533
  · subst hr
    exact ia_bad s w hs ha
  · cases hv : Lib.validRune r
    · exact ia_ill s r w h0 h1 hv
    · exact ia_hi s r w hs h0 h1 hv hr ha

theorem ia_dn (n b0 b1 b2 b3 : Nat) : (1 < (Lib.decodeN n b0 b1 b2 b3).2 → 1 < n ∧ b1 / 64 = 2) ∧ (2 < (Lib.decodeN n b0 b1 b2 b3).2 → 2 < n ∧ b2 / 64 = 2) ∧ (3 < (Lib.decodeN n b0 b1 b2 b3).2 → 3 < n ∧ b3 / 64 = 2) ∧ (Lib.decodeN n b0 b1 b2 b3).2 ≤ 4 ∧ 1 ≤ (Lib.decodeN n b0 b1 b2 b3).2 := by
  unfold Lib.decodeN
  split
  · simp
  · split
    · rename_i h
      split <;> simp [h.2.1, h.2.2]
    · split
      · rename_i h
        split <;> simp [h.2.1.1, h.2.1.2, h.2.2.1, h.2.2.2]
      · split
        · rename_i h
          split <;> simp [h.2.1.1, h.2.1.2, h.2.2.1.1, h.2.2.1.2, h.2.2.2.1, h.2.2.2.2]
        · simp
theorem ia_get (s : ByteArray) (i : Nat) (hi : i < s.size) : s.get! i = s[i]'hi := by
  show s.data[i]! = s.data[i]
  exact getElem!_pos s.data i hi
theorem ia_rune (s : ByteArray) (i : Nat) (hi : i < s.size) (h : 128 ≤ (s[i]'hi).toNat) : i + (Utf8.decode s i).2 ≤ s.size ∧ 1 ≤ (Utf8.decode s i).2 ∧ ∀ (j : Nat) b, i ≤ j → j < i + (Utf8.decode s i).2 → s.data.toList[j]? = some b → 128 ≤ b.toNat := by
  rw [Lib.decode_at]
  obtain ⟨a1, a2, a3, a4, a5⟩ := ia_dn (s.size - i) (s.get! i).toNat (s.get! (i + 1)).toNat (s.get! (i + 2)).toNat (s.get! (i + 3)).toNat
  generalize (Lib.decodeN (s.size - i) (s.get! i).toNat (s.get! (i + 1)).toNat (s.get! (i + 2)).toNat (s.get! (i + 3)).toNat).2 = wd at *
  refine ⟨by omega, a5, fun j b h1 h2 hb => ?_⟩
  have hj : j < s.size := by
    have := (List.getElem?_eq_some_iff.1 hb).1
    rw [Array.length_toList] at this
    exact this
  have hbj : b = s.get! j := by
    rw [ia_get s j hj]
    rw [ia_data s j hj] at hb
    exact (Option.some.inj hb).symm
  subst hbj
  have h4 : j = i ∨ j = i + 1 ∨ j = i + 2 ∨ j = i + 3 := by omega
  rcases h4 with e | e | e | e <;> subst e
  · rw [ia_get s _ hi]; exact h
  · have := (a1 (by omega)).2; omega
  · have := (a2 (by omega)).2; omega
  · have := (a3 (by omega)).2; omega
theorem ia_runele (s : ByteArray) (i : Nat) : (Utf8.decode s i).1 ≤ 1114111 := by
  have h := Lib.decode_at s i
  rw [h]
  have hb : (s.get! i).toNat < 256 := UInt8.toNat_lt _
  unfold Lib.decodeN
  repeat' split
  all_goals (simp only; omega)

set_option maxHeartbeats 1000000 in
set_option maxRecDepth 100000 in
theorem ia_short (s chars : ByteArray) (w : World) (h2 : 2 ≤ chars.size) (h8 : s.size ≤ 8) (hc8 : chars.size ≤ 4294967280) (hac : ∀ (j : Nat) b, chars.data.toList[j]? = some b → b.toNat < 128) :
    Calls Tryz.prog 61 #[.string s, .string chars] w fun e w' => e = .returned (.int .i64 (Lib.indexAny s.data.toList chars.data.toList)) ∧ Below w.heap.size w w' := by
  have HA := Aside0.mk hac
  clear hac
  have hemp : chars.toList.isEmpty = false := by
    rw [Lib.toList_data]
    cases h : chars.data.toList with
    | nil => have := Lib.size_eq chars; rw [h, List.length_nil] at this; omega
    | cons _ _ => rfl
  have hn1 : ((chars.size : Int) == 1) = false := beq_eq_false_iff_ne.2 (by omega)
  have h8z : decide ((8 : Int) < (s.size : Int)) = false := decide_eq_false (by omega)
  go_enter Tryz.func61, Tryz.ntmps61
  go_wp2_with (go_at_call 70; refine (Tryz.strings_shouldUseASCIISet _ _).mono ?_; rintro e w' ⟨rfl, hw⟩; rw [hw, h8z])
  go_loopg [9, 10] s.size (fun g _ _ wx => ∃ i : Nat, i ≤ s.size ∧ s.size ≤ i + g ∧ wx.heap[w.heap.size]? = some (.stringIter s i) ∧ Below w.heap.size w wx ∧ Lib.NoAny s.data.toList chars.data.toList i)
  case atStart => exact ⟨0, by omega, by omega, World.iter_heap w s 0, (Below.refl _ w).alloc (Nat.le_refl _) _, Lib.NoAny.zero _ _⟩
  case round =>
    obtain ⟨i, hi1, hi2, hit, hbw, hno⟩ := hrel
    have HN := Aside0.mk hno
    clear hno
    have hsz : w.heap.size < wr.heap.size := (Array.getElem?_eq_some_iff.1 hit).1
    have HB := Aside0.mk hbw
    clear hbw
    by_cases hi : i < s.size
    · have hnx : ∀ ty, (Instr.next (.pointer (some ⟨w.heap.size, 0, none⟩)) true ty).run Tryz.prog wr = _ := fun ty => Lib.run_next_any_at wr w.heap.size s i ty hit hi
      obtain ⟨x, hx⟩ : ∃ x : UInt8, s[i]'hi = x := ⟨_, rfl⟩
      have Hx := Aside0.mk hx
      have hit2 := Lib.iterAt_heap wr w.heap.size s i (i + (Utf8.decode s i).2) hit
      have hbw2 := Lib.below_iterAt HB.out (k := w.heap.size) (Nat.le_refl _) s (i + (Utf8.decode s i).2)
      by_cases hlo : x.toNat < 128
      · have hd : Utf8.decode s i = (x.toNat, 1) := by
          have := decode_ascii s i hi (by rw [hx]; exact hlo)
          rw [hx] at this
          exact this
        have Hxl := Aside0.mk (show s.data.toList[i]? = some x by rw [ia_data s i hi, hx])
        clear hx Hx
        rw [hd] at hit2 hbw2
        simp only [hd] at hnx
        have HI := Aside0.mk hit2
        have HB2 := Aside0.mk hbw2
        clear hit2 hbw2 hd hit
        have hcon := Lib.contains_iff_indexByte chars.data.toList x
        have hback : ((x.toNat : Int)).toNat.toUInt8 = x := by simp
        cases hin : chars.data.toList.contains x
        · rw [hin] at hcon
          have hlt : ¬ ((0 : Int) ≤ Lib.indexByte chars.data.toList x) := of_decide_eq_false hcon.symm
          clear hcon
          go_wp2_with (go_at_call 69; refine (Tryz.strings_IndexRune_ascii _ _ _ (by omega) (by omega)).mono ?_; rintro e w' ⟨rfl, hw⟩; rw [hw, hback])
          go_roundg (gk - 1)
          case measure => omega
          case rel => exact ⟨i + 1, by omega, by omega, HI.out, HB2.out, HN.out.succ Hxl.out hin⟩
        · rw [hin] at hcon
          have hge : (0 : Int) ≤ Lib.indexByte chars.data.toList x := of_decide_eq_true hcon.symm
          clear hcon
          go_wp2_with (go_at_call 69; refine (Tryz.strings_IndexRune_ascii _ _ _ (by omega) (by omega)).mono ?_; rintro e w' ⟨rfl, hw⟩; rw [hw, hback])
          go_ret
          exact ⟨by rw [Lib.indexAny_hit HN.out Hxl.out hin]; rfl, HB2.out⟩
      · obtain ⟨g1, g2, g3⟩ := ia_rune s i hi (by rw [hx]; omega)
        have hr1 := (decode_high s i hi (by rw [hx]; omega)).1
        have hr2 := ia_runele s i
        clear hx
        have HI := Aside0.mk hit2
        have HB2 := Aside0.mk hbw2
        have hsz2 : (wr.iterAt w.heap.size s (i + (Utf8.decode s i).2)).heap.size = wr.heap.size := Lib.iterAt_size _ _ _ _
        have HZ := Aside0.mk hsz2
        clear hit2 hbw2 hit hsz2
        have G3 := Aside0.mk g3
        clear g3
        go_wp2_with (go_at_call 69; refine (ia_far chars _ _ hc8 (by omega) (by omega) HA.out).mono ?_; rintro e w2 ⟨rfl, hb2⟩)
        have hb3 : w2.heap[w.heap.size]? = some (.stringIter s (i + (Utf8.decode s i).2)) := (hb2.block _ (by rw [HZ.out]; exact hsz)).trans HI.out
        have hb4 : Below w.heap.size w w2 := below_then HB2.out (by rw [HZ.out]; omega) hb2
        clear hb2
        have H3 := Aside0.mk hb3
        have H4 := Aside0.mk hb4
        clear hb3 hb4
        go_wp2
        go_roundg (gk - 1)
        case measure => omega
        case rel =>
          refine ⟨i + (Utf8.decode s i).2, by omega, by omega, H3.out, H4.out, fun j b hj hb => ?_⟩
          by_cases hji : j < i
          · exact HN.out j b hji hb
          · have h1 := G3.out j b (by omega) hj hb
            cases hc : chars.data.toList.contains b
            · rfl
            · have hm : b ∈ chars.data.toList := by simpa using hc
              obtain ⟨j', hj'⟩ := List.getElem?_of_mem hm
              have := HA.out j' b hj'
              omega
    · have hnx : ∀ ty, (Instr.next (.pointer (some ⟨w.heap.size, 0, none⟩)) true ty).run Tryz.prog wr = _ := fun ty => Lib.run_next_end_at wr w.heap.size s i ty hit hi
      go_wp2
      go_ret
      have : i = s.data.toList.length := by rw [Array.length_toList]; show i = s.size; omega
      exact ⟨by rw [Lib.indexAny_none (by rw [← this]; exact HN.out)]; rfl, HB.out⟩

def strings_IndexAny.f (a0 a1 : ByteArray) : Option Int := if 2 ≤ a1.size ∧ a1.size ≤ 4294967280 ∧ a0.size ≤ 4294967280 ∧ (a1.data.toList.all fun b => decide (b.toNat < 128)) = true then some (Lib.indexAny a0.data.toList a1.data.toList) else none

theorem strings_IndexAny.calls (a0 a1 : ByteArray) (r : Int) (w : World) (h : strings_IndexAny.f a0 a1 = some r) :
    Calls Tryz.prog 61 #[.string a0, .string a1] w fun e w' => e = .returned (.int .i64 r) ∧ Below w.heap.size w w' := by
  unfold strings_IndexAny.f at h
  split at h
  · rename_i hc
    obtain ⟨h1, h2, h3, h4⟩ := hc
    obtain rfl := Option.some.inj h
    have ha := ascii_of_all h4
    by_cases h8 : a0.size ≤ 8
    · exact ia_short a0 a1 w h1 h8 h2 ha
    · refine (Any.strings_IndexAny_long Tryz.lays153 (fun w => by kernel_rfl) (by kernel_rfl) a0 a1 w h1 (by omega) (by omega) (by omega) ha).mono ?_
      rintro e w' ⟨rfl, rfl⟩
      exact ⟨rfl, ((Below.refl _ w).alloc (Nat.le_refl _) _).alloc (by simp) _⟩
  · cases h
end Go.Proofs.YtjcfjgcnkbbgmaaGreatDoor.PA
