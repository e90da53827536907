/-
  Texts of the proof of RefsRest, part 1 of 6: contracts and plain laws. Conditions: see each statement.
-/
import Derived.Test.YtekifcbokdidlaaGreatDoorProg
import Derived.Below
import Derived.Deep.Draws
import Derived.Deep.AppendLies
import Derived.Maps.AppendAt
import Derived.OwnWalk
import Derived.Laws.BytesArg
import Derived.Laws.MakeOwn
import Derived.Laws.OwnMore
import Derived.Deep.OwnRows
import Derived.Tactics
import Derived.Lib.ConvBytes
import Derived.Laws.Slices
import Derived.WalkKit
import Derived.KernelRfl
import Derived.RowKit3
import Derived.Deep.LoopGhost
import Derived.Deep.QuietTactic
import Derived.BigQuiet
import Derived.WideLaws
import Derived.Deep.DeepCutAuto
import Derived.Deep.CutBlock
import Derived.Deep.RegionHeld3
import Derived.Laws.Rows
import Derived.Lib.AppendStr
import Derived.ArgAppend
import Derived.Laws.IdiomCopy
import Derived.OrdersHeld
import Derived.Laws.BitsLemmas
import Derived.RowKit
import Derived.Test.YtekifcbokdidlaaGreatDoorWWords
import Derived.Test.YtekifcbokdidlaaGreatDoorWLast
import Derived.Test.YtekifcbokdidlaaGreatDoorWTab
import Derived.Test.YtekifcbokdidlaaGreatDoorWFour
import Derived.Test.YtekifcbokdidlaaGreatDoorWQPut
import Derived.Test.YtekifcbokdidlaaGreatDoorWApart
import Derived.Test.YtekifcbokdidlaaGreatDoorWArr
import Derived.Test.YtekifcbokdidlaaGreatDoorWZeros
import Derived.Test.YtekifcbokdidlaaGreatDoorWFoot
import Derived.Test.YtekifcbokdidlaaGreatDoorWKept
import Derived.Test.YtekifcbokdidlaaGreatDoorWShare
import Derived.Test.YtekifcbokdidlaaGreatDoorWN
import Derived.Test.YtekifcbokdidlaaGreatDoorWFootNe
import Derived.Test.YtekifcbokdidlaaGreatDoorWAt
import Derived.Test.YtekifcbokdidlaaGreatDoorWEqStruct
import Derived.Test.YtekifcbokdidlaaGreatDoorWRepsOne
import Derived.Test.YtekifcbokdidlaaGreatDoorWInv
import Derived.Test.YtekifcbokdidlaaGreatDoorWInvWords
import Derived.Test.YtekifcbokdidlaaGreatDoorWGuard
import Derived.Test.YtekifcbokdidlaaGreatDoorWNEv
import Derived.Test.YtekifcbokdidlaaGreatDoorWMore
import Derived.Shelf.Strings.SlTrimAscii
import Derived.Shelf.Spec.DecodeRune
import Derived.Shelf.Spec.BuilderWrite
import Derived.Shelf.Strings.Builder1
import Derived.Shelf.Strings.Builder2
import Derived.Shelf.Strings.OnBuilder
import Derived.Shelf.Strings.Trim
import Derived.Shelf.Small.Utf8
import Derived.Shelf.Small.Strs
import Derived.Shelf.Small.Wraps
import Derived.Shelf.Strings.BuilderF
import Derived.Shelf.Strings.BuilderK
import Derived.Shelf.Strings.BuilderRune
import Derived.Shelf.Utf8.RuneCount
import Derived.Shelf.Strconv.Itoa0
import Derived.Shelf.Strconv.Itoa1
import Derived.Shelf.LaysM
import Derived.Shelf.Strconv.Itoa2
import Derived.Shelf.Strconv.Itoa3
import Derived.Shelf.Strings.Search1
import Derived.Shelf.Strings.Search2
import Derived.Shelf.Strings.Search3
import Derived.Shelf.Strings.Cut
import Derived.Shelf.Strings.Count
import Derived.Shelf.Strings.Shaped
import Derived.Shelf.Strings.Prefix
import Derived.Shelf.Strings.Split
import Derived.Shelf.Strings.SplitShaped
import Derived.Shelf.Unicode.Decode
import Derived.Shelf.Strings.Runes
import Derived.Shelf.Strings.RuneCount
import Derived.Shelf.Strings.AsciiSet
import Derived.Shelf.Strings.Explode
import Derived.Shelf.Unicode.DecodeSlow
import Derived.Shelf.Unicode.DecodeAny
import Derived.Shelf.Unicode.DecodeLast
import Derived.Shelf.Strings.FieldsFuncAny
import Derived.Shelf.Lays
import Derived.Shelf.Lays7
import Derived.Lib.LaidU8
import Derived.Test.YtekifcbokdidlaaGreatDoorCards
import Derived.Test.YtekifcbokdidlaaGreatDoorTie
import Derived.ProofKit
import Derived.OpenShut
import Derived.ShutString
import Derived.ChangeOld
import Derived.SizedLaws
import Derived.Deep.DeepHandedRow
import Derived.Lib.LaidTab
import Derived.Shelf.Vars
import Derived.Test.YtekifcbokdidlaaGreatDoorWSized
import Derived.LaidByText
import Derived.Deep.DeepWitnessRowRef
import Derived.Lib.Strings
import Derived.Lib.Walk
import Derived.Lib.Hide
import Derived.Laws.Strings3
import Derived.Laws.Closers25
import Derived.Laws.Closers25b
import Derived.BigCall
import Derived.BigGuard
import Derived.Laws.Tables
import Derived.Laws.CopyOwn
import Derived.RangeFuncRecord
import Derived.WalkLawsBesides
import Derived.Lib.SplitLaws
import Derived.Lib.IndexMore
import Derived.ChangeKeysEq
namespace Go.Proofs.YtekifcbokdidlaaGreatDoor.PA
open Go.RowKit Go.Proofs.YtekifcbokdidlaaGreatDoorW.PrintWords Go.Proofs.YtekifcbokdidlaaGreatDoorW.PrintLast Go.Proofs.YtekifcbokdidlaaGreatDoorW.PrintMore
attribute [local go_sem] max2_int min2_int max_two min_two max_three min_three max_four min_four   -- for this text's walks alone
set_option linter.unusedVariables false
set_option linter.unusedSimpArgs false



def errW : Option Int → Value
  | none => .nilIface
  | some c => .iface 0 (.int .i64 c)
theorem errW_none : errW none = .nilIface := rfl
theorem errW_some (c : Int) : errW (some c) = .iface 0 (.int .i64 c) := rfl

theorem info5 : (Tryz.prog.info? 5).map (fun i => (i.zero, i.size, i.bytes)) = some (some (.int .u8 0), 1, 1) := by kernel_rfl
/-! #### struct type 26 -/
structure S26 where
  f0 : ByteArray
  f1 : ByteArray
  f2 : ByteArray
def z26 : S26 := ⟨(⟨#[]⟩ : ByteArray), (⟨#[]⟩ : ByteArray), (⟨#[]⟩ : ByteArray)⟩
def k26 : Kd S26 := Kd.iso (Kd.pair Kd.string (Kd.pair Kd.string Kd.string)) (fun x : S26 => (x.f0, x.f1, x.f2))
theorem k26_open {w : World} {x : S26} {cs : List Value} (h : k26.K w x cs) : cs = [.string x.f0, .string x.f1, .string x.f2] := by
  obtain ⟨_, _, rfl, rfl, ⟨_, _, rfl, rfl, rfl⟩⟩ := h
  exact rfl
theorem k26_mkM (w : World) (base : Nat) (ok : Nat → Prop) (x : S26)  : k26.M w base ok x [.string x.f0, .string x.f1, .string x.f2] := ⟨[.string x.f0], [.string x.f1, .string x.f2], rfl, rfl, ⟨[.string x.f1], [.string x.f2], rfl, rfl, rfl⟩⟩
/-! #### struct type 128 -/
end Go.Proofs.YtekifcbokdidlaaGreatDoor.PA

set_option linter.unusedVariables false
namespace Go.Proofs
open Go.Shelf
def Tryz.lays240_ren : Go.Shelf.Ren := ⟨fun | 240 => 90 | 276 => 109 | n => n, fun | 0 => 0 | 4 => 4 | 9 => 9 | 20 => 20 | 37 => 60 | 70 => 70 | 72 => 72 | 164 => 110 | n => n, fun | 1 => 0 | 3 => 1 | 4 => 2 | 15 => 3 | 16 => 4 | 17 => 5 | 18 => 6 | 19 => 7 | n => n⟩
theorem Tryz.lays240 : Go.Proofs.Lays.n240 Tryz.prog Tryz.lays240_ren := {
  mixed := by kernel_rfl,
  f240 := Tryz.func90.trans (congrArg some (by kernel_rfl)),
  f276 := Tryz.func109.trans (congrArg some (by kernel_rfl)),
  t0 := Tryz.underlying0,
  a0 := Tryz.isAgg0,
  z0 := Tryz.sizeOf0,
  v0 := Tryz.zeroValue0,
  t4 := Tryz.underlying4,
  a4 := Tryz.isAgg4,
  z4 := Tryz.sizeOf4,
  v4 := Tryz.zeroValue4,
  t9 := Tryz.underlying9,
  a9 := Tryz.isAgg9,
  z9 := Tryz.sizeOf9,
  v9 := Tryz.zeroValue9,
  t20 := Tryz.underlying20,
  a20 := Tryz.isAgg20,
  z20 := Tryz.sizeOf20,
  v20 := Tryz.zeroValue20,
  t70 := Tryz.underlying70,
  a70 := Tryz.isAgg70,
  z70 := Tryz.sizeOf70,
  v70 := Tryz.zeroValue70,
  t72 := Tryz.underlying72,
  a72 := Tryz.isAgg72,
  z72 := Tryz.sizeOf72,
  v72 := Tryz.zeroValue72,
  t164 := Tryz.underlying110,
  a164 := Tryz.isAgg110,
  z164 := Tryz.sizeOf110,
  v164 := Tryz.zeroValue110 }
def Tryz.lays166_ren : Go.Shelf.Ren := ⟨fun | 166 => 66 | 240 => 90 | 276 => 109 | n => n, fun | 0 => 0 | 3 => 3 | 4 => 4 | 5 => 5 | 9 => 9 | 20 => 20 | 37 => 60 | 70 => 70 | 72 => 72 | 75 => 79 | 80 => 76 | 164 => 110 | n => n, fun | 1 => 0 | 3 => 1 | 4 => 2 | 15 => 3 | 16 => 4 | 17 => 5 | 18 => 6 | 19 => 7 | n => n⟩
theorem Tryz.lays166 : Go.Proofs.Lays.n166 Tryz.prog Tryz.lays166_ren := {
  mixed := by kernel_rfl,
  f166 := Tryz.func66.trans (congrArg some (by kernel_rfl)),
  f240 := Tryz.func90.trans (congrArg some (by kernel_rfl)),
  f276 := Tryz.func109.trans (congrArg some (by kernel_rfl)),
  t0 := Tryz.underlying0,
  a0 := Tryz.isAgg0,
  z0 := Tryz.sizeOf0,
  v0 := Tryz.zeroValue0,
  t3 := Tryz.underlying3,
  a3 := Tryz.isAgg3,
  z3 := Tryz.sizeOf3,
  v3 := Tryz.zeroValue3,
  t4 := Tryz.underlying4,
  a4 := Tryz.isAgg4,
  z4 := Tryz.sizeOf4,
  v4 := Tryz.zeroValue4,
  t9 := Tryz.underlying9,
  a9 := Tryz.isAgg9,
  z9 := Tryz.sizeOf9,
  v9 := Tryz.zeroValue9,
  t20 := Tryz.underlying20,
  a20 := Tryz.isAgg20,
  z20 := Tryz.sizeOf20,
  v20 := Tryz.zeroValue20,
  t37 := Tryz.underlying60,
  a37 := Tryz.isAgg60,
  z37 := Tryz.sizeOf60,
  v37 := Tryz.zeroValue60,
  t70 := Tryz.underlying70,
  a70 := Tryz.isAgg70,
  z70 := Tryz.sizeOf70,
  v70 := Tryz.zeroValue70,
  t72 := Tryz.underlying72,
  a72 := Tryz.isAgg72,
  z72 := Tryz.sizeOf72,
  v72 := Tryz.zeroValue72,
  t75 := Tryz.underlying79,
  a75 := Tryz.isAgg79,
  z75 := Tryz.sizeOf79,
  v75 := Tryz.zeroValue79,
  t164 := Tryz.underlying110,
  a164 := Tryz.isAgg110,
  z164 := Tryz.sizeOf110,
  v164 := Tryz.zeroValue110 }
theorem Tryz.Builder_Extra_166 : Builder.Extra Tryz.prog Tryz.lays166_ren := {
  sizeBuilder := by kernel_rfl,
  liesBuilder := by kernel_rfl,
  t5 := Tryz.underlying5,
  a5 := Tryz.isAgg5,
  z5 := Tryz.sizeOf5,
  v5 := Tryz.zeroValue5,
  infoByte := by kernel_rfl,
  cellsByte := by kernel_rfl,
  sizeByte := by kernel_rfl,
  neB5 := by decide }
open Go.RowKit in
theorem Tryz.Builder_WriteString (B b : Nat) (bs : List Value) (s : ByteArray) (w : World) (h : Lib.IsBuilder 72 5 B b bs w) (hlen : bs.length + s.size ≤ 140737488355328) (hBw : B ≤ w.heap.size) :
    Calls Tryz.prog 66 #[.pointer (some ⟨b, 0, none⟩), .string s] w fun e w' => e = .returned (.tuple #[.int .i64 s.size, .nilIface]) ∧ (Lib.BuilderAt 72 5 B b (.pointer (some ⟨b, 0, none⟩)) (bs ++ Lib.strCells s) w' ∧ Below B w w') := Any.Builder_WriteString Tryz.lays166 Tryz.Builder_Extra_166 B b bs s w h hlen hBw
def Tryz.lays169_ren : Go.Shelf.Ren := ⟨fun | 169 => 64 | n => n, fun | 0 => 0 | 3 => 3 | 5 => 5 | 9 => 9 | 37 => 60 | 70 => 70 | 72 => 72 | 127 => 99 | n => n, fun | 1 => 0 | 3 => 1 | 4 => 2 | 15 => 3 | 16 => 4 | 17 => 5 | 18 => 6 | 19 => 7 | n => n⟩
theorem Tryz.lays169 : Go.Proofs.Lays.n169 Tryz.prog Tryz.lays169_ren := {
  mixed := by kernel_rfl,
  f169 := Tryz.func64.trans (congrArg some (by kernel_rfl)),
  t0 := Tryz.underlying0,
  a0 := Tryz.isAgg0,
  z0 := Tryz.sizeOf0,
  v0 := Tryz.zeroValue0,
  t3 := Tryz.underlying3,
  a3 := Tryz.isAgg3,
  z3 := Tryz.sizeOf3,
  v3 := Tryz.zeroValue3,
  t9 := Tryz.underlying9,
  a9 := Tryz.isAgg9,
  z9 := Tryz.sizeOf9,
  v9 := Tryz.zeroValue9,
  t37 := Tryz.underlying60,
  a37 := Tryz.isAgg60,
  z37 := Tryz.sizeOf60,
  v37 := Tryz.zeroValue60,
  t70 := Tryz.underlying70,
  a70 := Tryz.isAgg70,
  z70 := Tryz.sizeOf70,
  v70 := Tryz.zeroValue70,
  t72 := Tryz.underlying72,
  a72 := Tryz.isAgg72,
  z72 := Tryz.sizeOf72,
  v72 := Tryz.zeroValue72,
  t127 := Tryz.underlying99,
  a127 := Tryz.isAgg99,
  z127 := Tryz.sizeOf99,
  v127 := Tryz.zeroValue99 }
theorem Tryz.Builder_Extra_169 : Builder.Extra Tryz.prog Tryz.lays169_ren := {
  sizeBuilder := by kernel_rfl,
  liesBuilder := by kernel_rfl,
  t5 := Tryz.underlying5,
  a5 := Tryz.isAgg5,
  z5 := Tryz.sizeOf5,
  v5 := Tryz.zeroValue5,
  infoByte := by kernel_rfl,
  cellsByte := by kernel_rfl,
  sizeByte := by kernel_rfl,
  neB5 := by decide }
open Go.RowKit in
theorem Tryz.Builder_String_any (B b : Nat) (l : List UInt8) (w : World) (h : Lib.IsBuilder 72 5 B b (Lib.byteCells l) w) (hBw : B ≤ w.heap.size) :
    Calls Tryz.prog 64 #[.pointer (some ⟨b, 0, none⟩)] w fun e w' => e = .returned (.string ⟨l.toArray⟩) ∧ Below B w w' := Any.Builder_String_any Tryz.lays169 Tryz.Builder_Extra_169 B b l w h hBw
def Tryz.lays156_ren : Go.Shelf.Ren := ⟨fun | 156 => 39 | 165 => 65 | 166 => 66 | 169 => 64 | 240 => 90 | 241 => 91 | 276 => 109 | 277 => 110 | n => n, fun | 0 => 0 | 3 => 3 | 4 => 4 | 5 => 5 | 9 => 9 | 20 => 20 | 31 => 37 | 37 => 60 | 70 => 70 | 72 => 72 | 75 => 79 | 76 => 80 | 80 => 76 | 127 => 99 | 164 => 110 | n => n, fun | 1 => 0 | 3 => 1 | 4 => 2 | 15 => 3 | 16 => 4 | 17 => 5 | 18 => 6 | 19 => 7 | n => n⟩
theorem Tryz.lays156 : Go.Proofs.Lays.n156 Tryz.prog Tryz.lays156_ren := {
  mixed := by kernel_rfl,
  f156 := Tryz.func39.trans (congrArg some (by kernel_rfl)),
  f165 := Tryz.func65.trans (congrArg some (by kernel_rfl)),
  f166 := Tryz.func66.trans (congrArg some (by kernel_rfl)),
  f169 := Tryz.func64.trans (congrArg some (by kernel_rfl)),
  f240 := Tryz.func90.trans (congrArg some (by kernel_rfl)),
  f241 := Tryz.func91.trans (congrArg some (by kernel_rfl)),
  f276 := Tryz.func109.trans (congrArg some (by kernel_rfl)),
  f277 := Tryz.func110.trans (congrArg some (by kernel_rfl)),
  t0 := Tryz.underlying0,
  a0 := Tryz.isAgg0,
  z0 := Tryz.sizeOf0,
  v0 := Tryz.zeroValue0,
  t3 := Tryz.underlying3,
  a3 := Tryz.isAgg3,
  z3 := Tryz.sizeOf3,
  v3 := Tryz.zeroValue3,
  t4 := Tryz.underlying4,
  a4 := Tryz.isAgg4,
  z4 := Tryz.sizeOf4,
  v4 := Tryz.zeroValue4,
  t9 := Tryz.underlying9,
  a9 := Tryz.isAgg9,
  z9 := Tryz.sizeOf9,
  v9 := Tryz.zeroValue9,
  t20 := Tryz.underlying20,
  a20 := Tryz.isAgg20,
  z20 := Tryz.sizeOf20,
  v20 := Tryz.zeroValue20,
  t31 := Tryz.underlying37,
  a31 := Tryz.isAgg37,
  z31 := Tryz.sizeOf37,
  v31 := Tryz.zeroValue37,
  t37 := Tryz.underlying60,
  a37 := Tryz.isAgg60,
  z37 := Tryz.sizeOf60,
  v37 := Tryz.zeroValue60,
  t70 := Tryz.underlying70,
  a70 := Tryz.isAgg70,
  z70 := Tryz.sizeOf70,
  v70 := Tryz.zeroValue70,
  t72 := Tryz.underlying72,
  a72 := Tryz.isAgg72,
  z72 := Tryz.sizeOf72,
  v72 := Tryz.zeroValue72,
  t75 := Tryz.underlying79,
  a75 := Tryz.isAgg79,
  z75 := Tryz.sizeOf79,
  v75 := Tryz.zeroValue79,
  t76 := Tryz.underlying80,
  a76 := Tryz.isAgg80,
  z76 := Tryz.sizeOf80,
  v76 := Tryz.zeroValue80,
  t127 := Tryz.underlying99,
  a127 := Tryz.isAgg99,
  z127 := Tryz.sizeOf99,
  v127 := Tryz.zeroValue99,
  t164 := Tryz.underlying110,
  a164 := Tryz.isAgg110,
  z164 := Tryz.sizeOf110,
  v164 := Tryz.zeroValue110 }
theorem Tryz.Builder_Extra_156 : Builder.Extra Tryz.prog Tryz.lays156_ren := {
  sizeBuilder := by kernel_rfl,
  liesBuilder := by kernel_rfl,
  t5 := Tryz.underlying5,
  a5 := Tryz.isAgg5,
  z5 := Tryz.sizeOf5,
  v5 := Tryz.zeroValue5,
  infoByte := by kernel_rfl,
  cellsByte := by kernel_rfl,
  sizeByte := by kernel_rfl,
  neB5 := by decide }
open Go.RowKit in
theorem Tryz.strings_Join_none (a : Option Addr) (c : Nat) (sep : ByteArray) (w : World) :
    Calls Tryz.prog 39 #[.slice a 0 c, .string sep] w fun e w' => e = .returned (.string ⟨#[]⟩) ∧ w' = w := Any.strings_Join_none Tryz.lays156 Tryz.Builder_Extra_156 a c sep w
open Go.RowKit in
theorem Tryz.strings_Join (bk o c : Nat) (xs : List ByteArray) (sep : ByteArray) (w : World) (hcells : ∀ (j : Nat) x, xs[j]? = some x → w.cell? ⟨bk, o + j, none⟩ = some (.string x)) (hbk : bk < w.heap.size) (hN : xs.length ≤ 140737488355328) (hcap : xs.length ≤ c) (hlen : (Lib.join (xs.map (·.data.toList)) sep.data.toList).length ≤ 140737488355328) :
    Calls Tryz.prog 39 #[.slice (some ⟨bk, o, none⟩) xs.length c, .string sep] w fun e w' => e = .returned (.string ⟨(Lib.join (xs.map (·.data.toList)) sep.data.toList).toArray⟩) ∧ Below w.heap.size w w' := Any.strings_Join Tryz.lays156 Tryz.Builder_Extra_156 bk o c xs sep w hcells hbk hN hcap hlen
def Tryz.lays161_ren : Go.Shelf.Ren := ⟨fun | 119 => 138 | 137 => 141 | 151 => 104 | 152 => 127 | 161 => 54 | 197 => 103 | 217 => 113 | 224 => 115 | 225 => 114 | 227 => 82 | 228 => 102 | 231 => 81 | 233 => 83 | 235 => 84 | 260 => 126 | 266 => 130 | n => n, fun | 0 => 0 | 3 => 3 | 4 => 4 | 5 => 5 | 9 => 9 | 21 => 21 | 46 => 38 | 105 => 85 | 116 => 93 | 117 => 94 | 119 => 113 | 124 => 97 | 138 => 115 | 139 => 116 | n => n, fun | 1 => 0 | 3 => 1 | 4 => 2 | 15 => 3 | 16 => 4 | 17 => 5 | 18 => 6 | 19 => 7 | n => n⟩
theorem Tryz.lays161 : Go.Proofs.Lays.n161 Tryz.prog Tryz.lays161_ren := {
  mixed := by kernel_rfl,
  f119 := Tryz.func138.trans (congrArg some (by kernel_rfl)),
  f137 := Tryz.func141.trans (congrArg some (by kernel_rfl)),
  f151 := Tryz.func104.trans (congrArg some (by kernel_rfl)),
  f152 := Tryz.func127.trans (congrArg some (by kernel_rfl)),
  f161 := Tryz.func54.trans (congrArg some (by kernel_rfl)),
  f197 := Tryz.func103.trans (congrArg some (by kernel_rfl)),
  f217 := Tryz.func113.trans (congrArg some (by kernel_rfl)),
  f224 := Tryz.func115.trans (congrArg some (by kernel_rfl)),
  f225 := Tryz.func114.trans (congrArg some (by kernel_rfl)),
  f227 := Tryz.func82.trans (congrArg some (by kernel_rfl)),
  f228 := Tryz.func102.trans (congrArg some (by kernel_rfl)),
  f231 := Tryz.func81.trans (congrArg some (by kernel_rfl)),
  f233 := Tryz.func83.trans (congrArg some (by kernel_rfl)),
  f235 := Tryz.func84.trans (congrArg some (by kernel_rfl)),
  f260 := Tryz.func126.trans (congrArg some (by kernel_rfl)),
  f266 := Tryz.func130.trans (congrArg some (by kernel_rfl)),
  t0 := Tryz.underlying0,
  a0 := Tryz.isAgg0,
  z0 := Tryz.sizeOf0,
  v0 := Tryz.zeroValue0,
  t3 := Tryz.underlying3,
  a3 := Tryz.isAgg3,
  z3 := Tryz.sizeOf3,
  v3 := Tryz.zeroValue3,
  t4 := Tryz.underlying4,
  a4 := Tryz.isAgg4,
  z4 := Tryz.sizeOf4,
  v4 := Tryz.zeroValue4,
  t5 := Tryz.underlying5,
  a5 := Tryz.isAgg5,
  z5 := Tryz.sizeOf5,
  v5 := Tryz.zeroValue5,
  t9 := Tryz.underlying9,
  a9 := Tryz.isAgg9,
  z9 := Tryz.sizeOf9,
  v9 := Tryz.zeroValue9,
  t21 := Tryz.underlying21,
  a21 := Tryz.isAgg21,
  z21 := Tryz.sizeOf21,
  v21 := Tryz.zeroValue21,
  t46 := Tryz.underlying38,
  a46 := Tryz.isAgg38,
  z46 := Tryz.sizeOf38,
  v46 := Tryz.zeroValue38,
  t105 := Tryz.underlying85,
  a105 := Tryz.isAgg85,
  z105 := Tryz.sizeOf85,
  v105 := Tryz.zeroValue85,
  t116 := Tryz.underlying93,
  a116 := Tryz.isAgg93,
  z116 := Tryz.sizeOf93,
  t117 := Tryz.underlying94,
  a117 := Tryz.isAgg94,
  z117 := Tryz.sizeOf94,
  v117 := Tryz.zeroValue94,
  t119 := Tryz.underlying113,
  a119 := Tryz.isAgg113,
  z119 := Tryz.sizeOf113,
  t124 := Tryz.underlying97,
  a124 := Tryz.isAgg97,
  z124 := Tryz.sizeOf97,
  v124 := Tryz.zeroValue97,
  t138 := Tryz.underlying115,
  a138 := Tryz.isAgg115,
  z138 := Tryz.sizeOf115,
  v138 := Tryz.zeroValue115,
  t139 := Tryz.underlying116,
  a139 := Tryz.isAgg116,
  z139 := Tryz.sizeOf116,
  v139 := Tryz.zeroValue116,
  g3 := by kernel_rfl,
  g4 := by kernel_rfl }
def Tryz.lays160_ren : Go.Shelf.Ren := ⟨fun | 119 => 138 | 120 => 145 | 137 => 141 | 151 => 104 | 152 => 127 | 160 => 101 | 197 => 103 | 217 => 113 | 224 => 115 | 225 => 114 | 227 => 82 | 228 => 102 | 231 => 81 | 232 => 123 | 233 => 83 | 234 => 124 | 235 => 84 | 236 => 125 | 260 => 126 | 266 => 130 | 271 => 140 | n => n, fun | 0 => 0 | 3 => 3 | 4 => 4 | 5 => 5 | 9 => 9 | 21 => 21 | 46 => 38 | 105 => 85 | 116 => 93 | 117 => 94 | 119 => 113 | 124 => 97 | 138 => 115 | 139 => 116 | n => n, fun | 1 => 0 | 3 => 1 | 4 => 2 | 15 => 3 | 16 => 4 | 17 => 5 | 18 => 6 | 19 => 7 | n => n⟩
theorem Tryz.lays160 : Go.Proofs.Lays.n160 Tryz.prog Tryz.lays160_ren := {
  mixed := by kernel_rfl,
  f119 := Tryz.func138.trans (congrArg some (by kernel_rfl)),
  f120 := Tryz.func145.trans (congrArg some (by kernel_rfl)),
  f137 := Tryz.func141.trans (congrArg some (by kernel_rfl)),
  f151 := Tryz.func104.trans (congrArg some (by kernel_rfl)),
  f152 := Tryz.func127.trans (congrArg some (by kernel_rfl)),
  f160 := Tryz.func101.trans (congrArg some (by kernel_rfl)),
  f197 := Tryz.func103.trans (congrArg some (by kernel_rfl)),
  f217 := Tryz.func113.trans (congrArg some (by kernel_rfl)),
  f224 := Tryz.func115.trans (congrArg some (by kernel_rfl)),
  f225 := Tryz.func114.trans (congrArg some (by kernel_rfl)),
  f227 := Tryz.func82.trans (congrArg some (by kernel_rfl)),
  f228 := Tryz.func102.trans (congrArg some (by kernel_rfl)),
  f231 := Tryz.func81.trans (congrArg some (by kernel_rfl)),
  f232 := Tryz.func123.trans (congrArg some (by kernel_rfl)),
  f233 := Tryz.func83.trans (congrArg some (by kernel_rfl)),
  f234 := Tryz.func124.trans (congrArg some (by kernel_rfl)),
  f235 := Tryz.func84.trans (congrArg some (by kernel_rfl)),
  f236 := Tryz.func125.trans (congrArg some (by kernel_rfl)),
  f260 := Tryz.func126.trans (congrArg some (by kernel_rfl)),
  f266 := Tryz.func130.trans (congrArg some (by kernel_rfl)),
  f271 := Tryz.func140.trans (congrArg some (by kernel_rfl)),
  t0 := Tryz.underlying0,
  a0 := Tryz.isAgg0,
  z0 := Tryz.sizeOf0,
  v0 := Tryz.zeroValue0,
  t3 := Tryz.underlying3,
  a3 := Tryz.isAgg3,
  z3 := Tryz.sizeOf3,
  v3 := Tryz.zeroValue3,
  t4 := Tryz.underlying4,
  a4 := Tryz.isAgg4,
  z4 := Tryz.sizeOf4,
  v4 := Tryz.zeroValue4,
  t5 := Tryz.underlying5,
  a5 := Tryz.isAgg5,
  z5 := Tryz.sizeOf5,
  v5 := Tryz.zeroValue5,
  t9 := Tryz.underlying9,
  a9 := Tryz.isAgg9,
  z9 := Tryz.sizeOf9,
  v9 := Tryz.zeroValue9,
  t21 := Tryz.underlying21,
  a21 := Tryz.isAgg21,
  z21 := Tryz.sizeOf21,
  v21 := Tryz.zeroValue21,
  t46 := Tryz.underlying38,
  a46 := Tryz.isAgg38,
  z46 := Tryz.sizeOf38,
  v46 := Tryz.zeroValue38,
  t105 := Tryz.underlying85,
  a105 := Tryz.isAgg85,
  z105 := Tryz.sizeOf85,
  v105 := Tryz.zeroValue85,
  t116 := Tryz.underlying93,
  a116 := Tryz.isAgg93,
  z116 := Tryz.sizeOf93,
  t117 := Tryz.underlying94,
  a117 := Tryz.isAgg94,
  z117 := Tryz.sizeOf94,
  v117 := Tryz.zeroValue94,
  t119 := Tryz.underlying113,
  a119 := Tryz.isAgg113,
  z119 := Tryz.sizeOf113,
  t124 := Tryz.underlying97,
  a124 := Tryz.isAgg97,
  z124 := Tryz.sizeOf97,
  v124 := Tryz.zeroValue97,
  t138 := Tryz.underlying115,
  a138 := Tryz.isAgg115,
  z138 := Tryz.sizeOf115,
  v138 := Tryz.zeroValue115,
  t139 := Tryz.underlying116,
  a139 := Tryz.isAgg116,
  z139 := Tryz.sizeOf116,
  v139 := Tryz.zeroValue116,
  g3 := by kernel_rfl,
  g4 := by kernel_rfl }
def Tryz.lays119_ren : Go.Shelf.Ren := ⟨fun | 119 => 138 | n => n, fun | 4 => 4 | 21 => 21 | n => n, fun | 1 => 0 | 3 => 1 | 4 => 2 | 15 => 3 | 16 => 4 | 17 => 5 | 18 => 6 | 19 => 7 | n => n⟩
theorem Tryz.lays119 : Go.Proofs.Lays.n119 Tryz.prog Tryz.lays119_ren := {
  mixed := by kernel_rfl,
  f119 := Tryz.func138.trans (congrArg some (by kernel_rfl)),
  t4 := Tryz.underlying4,
  a4 := Tryz.isAgg4,
  z4 := Tryz.sizeOf4,
  v4 := Tryz.zeroValue4,
  t21 := Tryz.underlying21,
  a21 := Tryz.isAgg21,
  z21 := Tryz.sizeOf21,
  v21 := Tryz.zeroValue21 }
theorem Tryz.utf8_ValidRune (r : Int) (w : World) :
    Calls Tryz.prog 138 #[.int .i32 r] w fun e w' => e = .returned (.bool (Lib.validRune r)) ∧ w' = w := Any.utf8_ValidRune Tryz.lays119 r w
def Tryz.lays103_ren : Go.Shelf.Ren := ⟨fun | 103 => 27 | 206 => 71 | 210 => 48 | n => n, fun | 3 => 3 | 4 => 4 | 9 => 9 | 24 => 47 | n => n, fun | 1 => 0 | 3 => 1 | 4 => 2 | 15 => 3 | 16 => 4 | 17 => 5 | 18 => 6 | 19 => 7 | n => n⟩
theorem Tryz.lays103 : Go.Proofs.Lays.n103 Tryz.prog Tryz.lays103_ren := {
  mixed := by kernel_rfl,
  f103 := Tryz.func27.trans (congrArg some (by kernel_rfl)),
  f206 := Tryz.func71.trans (congrArg some (by kernel_rfl)),
  f210 := Tryz.func48.trans (congrArg some (by kernel_rfl)),
  t3 := Tryz.underlying3,
  a3 := Tryz.isAgg3,
  z3 := Tryz.sizeOf3,
  v3 := Tryz.zeroValue3,
  t4 := Tryz.underlying4,
  a4 := Tryz.isAgg4,
  z4 := Tryz.sizeOf4,
  v4 := Tryz.zeroValue4,
  t9 := Tryz.underlying9,
  a9 := Tryz.isAgg9,
  z9 := Tryz.sizeOf9,
  v9 := Tryz.zeroValue9,
  t24 := Tryz.underlying47,
  a24 := Tryz.isAgg47,
  z24 := Tryz.sizeOf47,
  v24 := Tryz.zeroValue47 }
open Go.RowKit in
theorem Tryz.strings_CutPrefix (s p : ByteArray) (w : World) :
    Calls Tryz.prog 27 #[.string s, .string p] w fun e w' => e = .returned (.tuple #[.string ⟨(Lib.trimPrefix s.data.toList p.data.toList).toArray⟩, .bool (Lib.hasPrefix s.data.toList p.data.toList)]) ∧ w' = w := Any.strings_CutPrefix Tryz.lays103 s p w
open Go.RowKit in
theorem Tryz.Builder_String_any_f (B b : Nat) (l : List UInt8) (w : World) (h : Lib.IsBuilderF 72 5 B b (Lib.byteCells l) w) (hBw : B ≤ w.heap.size) :
    Calls Tryz.prog 64 #[.pointer (some ⟨b, 0, none⟩)] w fun e w' => e = .returned (.string ⟨l.toArray⟩) ∧ (Lib.IsBuilderF 72 5 B b (Lib.byteCells l) w' ∧ Below B w w') := Any.Builder_String_any_f Tryz.lays169 Tryz.Builder_Extra_169 B b l w h hBw
open Go.RowKit in
theorem Tryz.Builder_WriteString_k (B b : Nat) (bs : List Value) (s : ByteArray) (w : World) (h : Lib.IsBuilderF 72 5 B b bs w) (hlen : bs.length + s.size ≤ 140737488355328) (hBw : B ≤ w.heap.size) :
    Calls Tryz.prog 66 #[.pointer (some ⟨b, 0, none⟩), .string s] w fun e w' => e = .returned (.tuple #[.int .i64 s.size, .nilIface]) ∧ (Lib.BuilderAtF 72 5 B b (.pointer (some ⟨b, 0, none⟩)) (bs ++ Lib.strCells s) w' ∧ Below B w w' ∧ Lib.OthersKept 5 (some b) w w') := Any.Builder_WriteString_k Tryz.lays166 Tryz.Builder_Extra_166 B b bs s w h hlen hBw
def Tryz.lays168_ren : Go.Shelf.Ren := ⟨fun | 168 => 89 | 240 => 90 | 242 => 108 | 276 => 109 | 278 => 129 | n => n, fun | 0 => 0 | 3 => 3 | 4 => 4 | 5 => 5 | 9 => 9 | 20 => 20 | 21 => 21 | 37 => 60 | 46 => 38 | 51 => 129 | 70 => 70 | 72 => 72 | 75 => 79 | 80 => 76 | 164 => 110 | n => n, fun | 1 => 0 | 3 => 1 | 4 => 2 | 15 => 3 | 16 => 4 | 17 => 5 | 18 => 6 | 19 => 7 | n => n⟩
theorem Tryz.lays168 : Go.Proofs.Lays.n168 Tryz.prog Tryz.lays168_ren := {
  mixed := by kernel_rfl,
  f168 := Tryz.func89.trans (congrArg some (by kernel_rfl)),
  f240 := Tryz.func90.trans (congrArg some (by kernel_rfl)),
  f242 := Tryz.func108.trans (congrArg some (by kernel_rfl)),
  f276 := Tryz.func109.trans (congrArg some (by kernel_rfl)),
  f278 := Tryz.func129.trans (congrArg some (by kernel_rfl)),
  t0 := Tryz.underlying0,
  a0 := Tryz.isAgg0,
  z0 := Tryz.sizeOf0,
  v0 := Tryz.zeroValue0,
  t3 := Tryz.underlying3,
  a3 := Tryz.isAgg3,
  z3 := Tryz.sizeOf3,
  v3 := Tryz.zeroValue3,
  t4 := Tryz.underlying4,
  a4 := Tryz.isAgg4,
  z4 := Tryz.sizeOf4,
  v4 := Tryz.zeroValue4,
  t5 := Tryz.underlying5,
  a5 := Tryz.isAgg5,
  z5 := Tryz.sizeOf5,
  v5 := Tryz.zeroValue5,
  t9 := Tryz.underlying9,
  a9 := Tryz.isAgg9,
  z9 := Tryz.sizeOf9,
  v9 := Tryz.zeroValue9,
  t20 := Tryz.underlying20,
  a20 := Tryz.isAgg20,
  z20 := Tryz.sizeOf20,
  v20 := Tryz.zeroValue20,
  t21 := Tryz.underlying21,
  a21 := Tryz.isAgg21,
  z21 := Tryz.sizeOf21,
  v21 := Tryz.zeroValue21,
  t37 := Tryz.underlying60,
  a37 := Tryz.isAgg60,
  z37 := Tryz.sizeOf60,
  v37 := Tryz.zeroValue60,
  t46 := Tryz.underlying38,
  a46 := Tryz.isAgg38,
  z46 := Tryz.sizeOf38,
  v46 := Tryz.zeroValue38,
  t51 := Tryz.underlying129,
  a51 := Tryz.isAgg129,
  z51 := Tryz.sizeOf129,
  v51 := Tryz.zeroValue129,
  t70 := Tryz.underlying70,
  a70 := Tryz.isAgg70,
  z70 := Tryz.sizeOf70,
  v70 := Tryz.zeroValue70,
  t72 := Tryz.underlying72,
  a72 := Tryz.isAgg72,
  z72 := Tryz.sizeOf72,
  v72 := Tryz.zeroValue72,
  t75 := Tryz.underlying79,
  a75 := Tryz.isAgg79,
  z75 := Tryz.sizeOf79,
  v75 := Tryz.zeroValue79,
  t164 := Tryz.underlying110,
  a164 := Tryz.isAgg110,
  z164 := Tryz.sizeOf110,
  v164 := Tryz.zeroValue110 }
theorem Tryz.Builder_Extra_168 : Builder.Extra Tryz.prog Tryz.lays168_ren := {
  sizeBuilder := by kernel_rfl,
  liesBuilder := by kernel_rfl,
  t5 := Tryz.underlying5,
  a5 := Tryz.isAgg5,
  z5 := Tryz.sizeOf5,
  v5 := Tryz.zeroValue5,
  infoByte := by kernel_rfl,
  cellsByte := by kernel_rfl,
  sizeByte := by kernel_rfl,
  neB5 := by decide }
open Go.RowKit in
theorem Tryz.Builder_WriteRune_k (B b : Nat) (bs : List Value) (r : Int) (hr0 : -2147483648 ≤ r) (hr1 : r ≤ 2147483647) (w : World) (h : Lib.IsBuilderF 72 5 B b bs w) (hlen : bs.length + 4 ≤ 140737488355328) (hBw : B ≤ w.heap.size) :
    Calls Tryz.prog 89 #[.pointer (some ⟨b, 0, none⟩), .int .i32 r] w fun e w' => e = .returned (.tuple #[.int .i64 (Lib.runeCells r).length, .nilIface]) ∧ (Lib.BuilderAtF 72 5 B b (.pointer (some ⟨b, 0, none⟩)) (bs ++ Lib.runeCells r) w' ∧ Below B w w' ∧ Lib.OthersKept 5 (some b) w w') := Any.Builder_WriteRune_k Tryz.lays168 Tryz.Builder_Extra_168 B b bs r hr0 hr1 w h hlen hBw
def Tryz.lays145_ren : Go.Shelf.Ren := ⟨fun | 145 => 98 | 217 => 113 | 219 => 97 | 220 => 117 | 224 => 115 | 225 => 114 | 266 => 130 | 267 => 116 | 314 => 131 | n => n, fun | 3 => 3 | 4 => 4 | 5 => 5 | 9 => 9 | 46 => 38 | 51 => 129 | 59 => 102 | 146 => 130 | n => n, fun | 1 => 0 | 3 => 1 | 4 => 2 | 15 => 3 | 16 => 4 | 17 => 5 | 18 => 6 | 19 => 7 | n => n⟩
theorem Tryz.lays145 : Go.Proofs.Lays.n145 Tryz.prog Tryz.lays145_ren := {
  mixed := by kernel_rfl,
  f145 := Tryz.func98.trans (congrArg some (by kernel_rfl)),
  f217 := Tryz.func113.trans (congrArg some (by kernel_rfl)),
  f219 := Tryz.func97.trans (congrArg some (by kernel_rfl)),
  f220 := Tryz.func117.trans (congrArg some (by kernel_rfl)),
  f224 := Tryz.func115.trans (congrArg some (by kernel_rfl)),
  f225 := Tryz.func114.trans (congrArg some (by kernel_rfl)),
  f266 := Tryz.func130.trans (congrArg some (by kernel_rfl)),
  f267 := Tryz.func116.trans (congrArg some (by kernel_rfl)),
  f314 := Tryz.func131.trans (congrArg some (by kernel_rfl)),
  t3 := Tryz.underlying3,
  a3 := Tryz.isAgg3,
  z3 := Tryz.sizeOf3,
  v3 := Tryz.zeroValue3,
  t4 := Tryz.underlying4,
  a4 := Tryz.isAgg4,
  z4 := Tryz.sizeOf4,
  v4 := Tryz.zeroValue4,
  t5 := Tryz.underlying5,
  a5 := Tryz.isAgg5,
  z5 := Tryz.sizeOf5,
  v5 := Tryz.zeroValue5,
  t9 := Tryz.underlying9,
  a9 := Tryz.isAgg9,
  z9 := Tryz.sizeOf9,
  v9 := Tryz.zeroValue9,
  t46 := Tryz.underlying38,
  a46 := Tryz.isAgg38,
  z46 := Tryz.sizeOf38,
  v46 := Tryz.zeroValue38,
  t51 := Tryz.underlying129,
  a51 := Tryz.isAgg129,
  z51 := Tryz.sizeOf129,
  v51 := Tryz.zeroValue129,
  t59 := Tryz.underlying102,
  a59 := Tryz.isAgg102,
  z59 := Tryz.sizeOf102,
  v59 := Tryz.zeroValue102,
  t146 := Tryz.underlying130,
  a146 := Tryz.isAgg130,
  z146 := Tryz.sizeOf130,
  v146 := Tryz.zeroValue130,
  g1 := by kernel_rfl }
open Go.RowKit Go.Lib in
theorem Tryz.strings_Cut (s sep : ByteArray) (m : Int) (w : World) (hs : s.size < 4294967281) (hm : w.cell? ⟨0, 0, none⟩ = some (.int .i64 m)) :
    Calls Tryz.prog 98 #[.string s, .string sep] w fun e w' => e = .returned (.tuple #[.string ⟨(Lib.cut s.data.toList sep.data.toList).1.toArray⟩, .string ⟨(Lib.cut s.data.toList sep.data.toList).2.1.toArray⟩, .bool (Lib.cut s.data.toList sep.data.toList).2.2]) ∧ ∃ n, w' = w.drewN n := Any.strings_Cut Tryz.lays145 s sep m w hs hm
def Tryz.lays138_ren : Go.Shelf.Ren := ⟨fun | 138 => 49 | 143 => 75 | 195 => 73 | 217 => 113 | 218 => 74 | 219 => 97 | 224 => 115 | 225 => 114 | 266 => 130 | 267 => 116 | 314 => 131 | n => n, fun | 0 => 0 | 3 => 3 | 4 => 4 | 5 => 5 | 9 => 9 | 46 => 38 | 51 => 129 | 146 => 130 | n => n, fun | 1 => 0 | 3 => 1 | 4 => 2 | 15 => 3 | 16 => 4 | 17 => 5 | 18 => 6 | 19 => 7 | n => n⟩
theorem Tryz.lays138 : Go.Proofs.Lays.n138 Tryz.prog Tryz.lays138_ren := {
  mixed := by kernel_rfl,
  f138 := Tryz.func49.trans (congrArg some (by kernel_rfl)),
  f143 := Tryz.func75.trans (congrArg some (by kernel_rfl)),
  f195 := Tryz.func73.trans (congrArg some (by kernel_rfl)),
  f217 := Tryz.func113.trans (congrArg some (by kernel_rfl)),
  f218 := Tryz.func74.trans (congrArg some (by kernel_rfl)),
  f219 := Tryz.func97.trans (congrArg some (by kernel_rfl)),
  f224 := Tryz.func115.trans (congrArg some (by kernel_rfl)),
  f225 := Tryz.func114.trans (congrArg some (by kernel_rfl)),
  f266 := Tryz.func130.trans (congrArg some (by kernel_rfl)),
  f267 := Tryz.func116.trans (congrArg some (by kernel_rfl)),
  f314 := Tryz.func131.trans (congrArg some (by kernel_rfl)),
  t0 := Tryz.underlying0,
  a0 := Tryz.isAgg0,
  z0 := Tryz.sizeOf0,
  v0 := Tryz.zeroValue0,
  t3 := Tryz.underlying3,
  a3 := Tryz.isAgg3,
  z3 := Tryz.sizeOf3,
  v3 := Tryz.zeroValue3,
  t4 := Tryz.underlying4,
  a4 := Tryz.isAgg4,
  z4 := Tryz.sizeOf4,
  v4 := Tryz.zeroValue4,
  t5 := Tryz.underlying5,
  a5 := Tryz.isAgg5,
  z5 := Tryz.sizeOf5,
  v5 := Tryz.zeroValue5,
  t9 := Tryz.underlying9,
  a9 := Tryz.isAgg9,
  z9 := Tryz.sizeOf9,
  v9 := Tryz.zeroValue9,
  t46 := Tryz.underlying38,
  a46 := Tryz.isAgg38,
  z46 := Tryz.sizeOf38,
  v46 := Tryz.zeroValue38,
  t51 := Tryz.underlying129,
  a51 := Tryz.isAgg129,
  z51 := Tryz.sizeOf129,
  v51 := Tryz.zeroValue129,
  t146 := Tryz.underlying130,
  a146 := Tryz.isAgg130,
  z146 := Tryz.sizeOf130,
  v146 := Tryz.zeroValue130,
  g1 := by kernel_rfl }
open Go.RowKit Go.Lib in
theorem Tryz.strings_Count_one (s : ByteArray) (c : UInt8) (w : World) :
    Calls Tryz.prog 49 #[.string s, .string ⟨#[c]⟩] w fun e w' => e = .returned (.int .i64 (Lib.countByte s.data.toList c)) ∧ w' = w := Any.strings_Count_one Tryz.lays138 s c w
open Go.RowKit Go.Lib in
theorem Tryz.strings_Count (s sub : ByteArray) (m : Int) (w : World) (hs : s.size < 4294967281) (hm : w.cell? ⟨0, 0, none⟩ = some (.int .i64 m)) (h2 : 2 ≤ sub.size) :
    Calls Tryz.prog 49 #[.string s, .string sub] w fun e w' => e = .returned (.int .i64 (Lib.countB s sub)) ∧ w' = w := Any.strings_Count Tryz.lays138 s sub m w hs hm h2
def Tryz.lays99_ren : Go.Shelf.Ren := ⟨fun | 99 => 44 | 206 => 71 | n => n, fun | 3 => 3 | 4 => 4 | 9 => 9 | n => n, fun | 1 => 0 | 3 => 1 | 4 => 2 | 15 => 3 | 16 => 4 | 17 => 5 | 18 => 6 | 19 => 7 | n => n⟩
theorem Tryz.lays99 : Go.Proofs.Lays.n99 Tryz.prog Tryz.lays99_ren := {
  mixed := by kernel_rfl,
  f99 := Tryz.func44.trans (congrArg some (by kernel_rfl)),
  f206 := Tryz.func71.trans (congrArg some (by kernel_rfl)),
  t3 := Tryz.underlying3,
  a3 := Tryz.isAgg3,
  z3 := Tryz.sizeOf3,
  v3 := Tryz.zeroValue3,
  t4 := Tryz.underlying4,
  a4 := Tryz.isAgg4,
  z4 := Tryz.sizeOf4,
  v4 := Tryz.zeroValue4,
  t9 := Tryz.underlying9,
  a9 := Tryz.isAgg9,
  z9 := Tryz.sizeOf9,
  v9 := Tryz.zeroValue9 }
open Go.RowKit Go.Lib in
theorem Tryz.strings_HasPrefix (s p : ByteArray) (w : World) :
    Calls Tryz.prog 44 #[.string s, .string p] w fun e w' => e = .returned (.bool (Lib.hasPrefix s.data.toList p.data.toList)) ∧ w' = w := Any.strings_HasPrefix Tryz.lays99 s p w
def Tryz.lays146_ren : Go.Shelf.Ren := ⟨fun | 138 => 49 | 143 => 75 | 146 => 100 | 195 => 73 | 197 => 103 | 217 => 113 | 218 => 74 | 219 => 97 | 221 => 122 | 224 => 115 | 225 => 114 | 260 => 126 | 266 => 130 | 267 => 116 | 268 => 139 | 314 => 131 | n => n, fun | 0 => 0 | 3 => 3 | 4 => 4 | 5 => 5 | 9 => 9 | 21 => 21 | 31 => 37 | 46 => 38 | 51 => 129 | 105 => 85 | 119 => 113 | 138 => 115 | 139 => 116 | 146 => 130 | n => n, fun | 1 => 0 | 3 => 1 | 4 => 2 | 15 => 3 | 16 => 4 | 17 => 5 | 18 => 6 | 19 => 7 | n => n⟩
theorem Tryz.lays146 : Go.Proofs.Lays.n146 Tryz.prog Tryz.lays146_ren := {
  mixed := by kernel_rfl,
  f138 := Tryz.func49.trans (congrArg some (by kernel_rfl)),
  f143 := Tryz.func75.trans (congrArg some (by kernel_rfl)),
  f146 := Tryz.func100.trans (congrArg some (by kernel_rfl)),
  f195 := Tryz.func73.trans (congrArg some (by kernel_rfl)),
  f197 := Tryz.func103.trans (congrArg some (by kernel_rfl)),
  f217 := Tryz.func113.trans (congrArg some (by kernel_rfl)),
  f218 := Tryz.func74.trans (congrArg some (by kernel_rfl)),
  f219 := Tryz.func97.trans (congrArg some (by kernel_rfl)),
  f221 := Tryz.func122.trans (congrArg some (by kernel_rfl)),
  f224 := Tryz.func115.trans (congrArg some (by kernel_rfl)),
  f225 := Tryz.func114.trans (congrArg some (by kernel_rfl)),
  f260 := Tryz.func126.trans (congrArg some (by kernel_rfl)),
  f266 := Tryz.func130.trans (congrArg some (by kernel_rfl)),
  f267 := Tryz.func116.trans (congrArg some (by kernel_rfl)),
  f268 := Tryz.func139.trans (congrArg some (by kernel_rfl)),
  f314 := Tryz.func131.trans (congrArg some (by kernel_rfl)),
  t0 := Tryz.underlying0,
  a0 := Tryz.isAgg0,
  z0 := Tryz.sizeOf0,
  v0 := Tryz.zeroValue0,
  t3 := Tryz.underlying3,
  a3 := Tryz.isAgg3,
  z3 := Tryz.sizeOf3,
  v3 := Tryz.zeroValue3,
  t4 := Tryz.underlying4,
  a4 := Tryz.isAgg4,
  z4 := Tryz.sizeOf4,
  v4 := Tryz.zeroValue4,
  t5 := Tryz.underlying5,
  a5 := Tryz.isAgg5,
  z5 := Tryz.sizeOf5,
  v5 := Tryz.zeroValue5,
  t9 := Tryz.underlying9,
  a9 := Tryz.isAgg9,
  z9 := Tryz.sizeOf9,
  v9 := Tryz.zeroValue9,
  t21 := Tryz.underlying21,
  a21 := Tryz.isAgg21,
  z21 := Tryz.sizeOf21,
  v21 := Tryz.zeroValue21,
  t31 := Tryz.underlying37,
  a31 := Tryz.isAgg37,
  z31 := Tryz.sizeOf37,
  v31 := Tryz.zeroValue37,
  t46 := Tryz.underlying38,
  a46 := Tryz.isAgg38,
  z46 := Tryz.sizeOf38,
  v46 := Tryz.zeroValue38,
  t51 := Tryz.underlying129,
  a51 := Tryz.isAgg129,
  z51 := Tryz.sizeOf129,
  v51 := Tryz.zeroValue129,
  t105 := Tryz.underlying85,
  a105 := Tryz.isAgg85,
  z105 := Tryz.sizeOf85,
  v105 := Tryz.zeroValue85,
  t119 := Tryz.underlying113,
  a119 := Tryz.isAgg113,
  z119 := Tryz.sizeOf113,
  t138 := Tryz.underlying115,
  a138 := Tryz.isAgg115,
  z138 := Tryz.sizeOf115,
  v138 := Tryz.zeroValue115,
  t139 := Tryz.underlying116,
  a139 := Tryz.isAgg116,
  z139 := Tryz.sizeOf116,
  v139 := Tryz.zeroValue116,
  t146 := Tryz.underlying130,
  a146 := Tryz.isAgg130,
  z146 := Tryz.sizeOf130,
  v146 := Tryz.zeroValue130,
  g1 := by kernel_rfl,
  g3 := by kernel_rfl,
  g4 := by kernel_rfl }
open Go.RowKit Go.Lib in
theorem Tryz.strings_Split (s sep : ByteArray) (m : Int) (w : World) (hs : s.size < 4294967281) (hm : w.cell? ⟨0, 0, none⟩ = some (.int .i64 m)) (h1 : 1 ≤ sep.size) :
    Calls Tryz.prog 100 #[.string s, .string sep] w fun e w' =>
      e = .returned (.slice (some ⟨w.heap.size, 0, none⟩) (Lib.countB s sep + 1) (Lib.countB s sep + 1)) ∧ w' = w.alloc (.cells ((Lib.splitB sep 0 (Lib.countB s sep) s).map Value.string).toArray 9) := Any.strings_Split Tryz.lays146 (by kernel_rfl) s sep m w hs hm h1
def Tryz.lays260_ren : Go.Shelf.Ren := ⟨fun | 260 => 126 | n => n, fun | 0 => 0 | 3 => 3 | 4 => 4 | 5 => 5 | 9 => 9 | 21 => 21 | 46 => 38 | 119 => 113 | 138 => 115 | 139 => 116 | n => n, fun | 1 => 0 | 3 => 1 | 4 => 2 | 15 => 3 | 16 => 4 | 17 => 5 | 18 => 6 | 19 => 7 | n => n⟩
theorem Tryz.lays260 : Go.Proofs.Lays.n260 Tryz.prog Tryz.lays260_ren := {
  mixed := by kernel_rfl,
  f260 := Tryz.func126.trans (congrArg some (by kernel_rfl)),
  t0 := Tryz.underlying0,
  a0 := Tryz.isAgg0,
  z0 := Tryz.sizeOf0,
  v0 := Tryz.zeroValue0,
  t3 := Tryz.underlying3,
  a3 := Tryz.isAgg3,
  z3 := Tryz.sizeOf3,
  v3 := Tryz.zeroValue3,
  t4 := Tryz.underlying4,
  a4 := Tryz.isAgg4,
  z4 := Tryz.sizeOf4,
  v4 := Tryz.zeroValue4,
  t5 := Tryz.underlying5,
  a5 := Tryz.isAgg5,
  z5 := Tryz.sizeOf5,
  v5 := Tryz.zeroValue5,
  t9 := Tryz.underlying9,
  a9 := Tryz.isAgg9,
  z9 := Tryz.sizeOf9,
  v9 := Tryz.zeroValue9,
  t21 := Tryz.underlying21,
  a21 := Tryz.isAgg21,
  z21 := Tryz.sizeOf21,
  v21 := Tryz.zeroValue21,
  t46 := Tryz.underlying38,
  a46 := Tryz.isAgg38,
  z46 := Tryz.sizeOf38,
  v46 := Tryz.zeroValue38,
  t119 := Tryz.underlying113,
  a119 := Tryz.isAgg113,
  z119 := Tryz.sizeOf113,
  t138 := Tryz.underlying115,
  a138 := Tryz.isAgg115,
  z138 := Tryz.sizeOf115,
  v138 := Tryz.zeroValue115,
  t139 := Tryz.underlying116,
  a139 := Tryz.isAgg116,
  z139 := Tryz.sizeOf116,
  v139 := Tryz.zeroValue116,
  g3 := by kernel_rfl,
  g4 := by kernel_rfl }
def Tryz.lays229_ren : Go.Shelf.Ren := ⟨fun | 229 => 40 | n => n, fun | 0 => 0 | 3 => 3 | 4 => 4 | 9 => 9 | 21 => 21 | 31 => 37 | 40 => 61 | 152 => 82 | 154 => 84 | n => n, fun | 1 => 0 | 3 => 1 | 4 => 2 | 15 => 3 | 16 => 4 | 17 => 5 | 18 => 6 | 19 => 7 | n => n⟩
theorem Tryz.lays229 : Go.Proofs.Lays.n229 Tryz.prog Tryz.lays229_ren := {
  mixed := by kernel_rfl,
  f229 := Tryz.func40.trans (congrArg some (by kernel_rfl)),
  t0 := Tryz.underlying0,
  a0 := Tryz.isAgg0,
  z0 := Tryz.sizeOf0,
  v0 := Tryz.zeroValue0,
  t3 := Tryz.underlying3,
  a3 := Tryz.isAgg3,
  z3 := Tryz.sizeOf3,
  v3 := Tryz.zeroValue3,
  t4 := Tryz.underlying4,
  a4 := Tryz.isAgg4,
  z4 := Tryz.sizeOf4,
  v4 := Tryz.zeroValue4,
  t9 := Tryz.underlying9,
  a9 := Tryz.isAgg9,
  z9 := Tryz.sizeOf9,
  v9 := Tryz.zeroValue9,
  t21 := Tryz.underlying21,
  a21 := Tryz.isAgg21,
  z21 := Tryz.sizeOf21,
  v21 := Tryz.zeroValue21,
  t31 := Tryz.underlying37,
  a31 := Tryz.isAgg37,
  z31 := Tryz.sizeOf37,
  v31 := Tryz.zeroValue37,
  t40 := Tryz.underlying61,
  a40 := Tryz.isAgg61,
  z40 := Tryz.sizeOf61,
  v40 := Tryz.zeroValue61,
  t152 := Tryz.underlying82,
  a152 := Tryz.isAgg82,
  z152 := Tryz.sizeOf82,
  v152 := Tryz.zeroValue82,
  t154 := Tryz.underlying84,
  a154 := Tryz.isAgg84,
  z154 := Tryz.sizeOf84,
  v154 := Tryz.zeroValue84 }
open Go.RowKit Go.Lib in
theorem Tryz.strings_FieldsFunc_runes (g : Nat) (lb : Array Value) (eg : ∀ args w, (callFunc g args).run Tryz.prog w = .ok (.enter g args) w) (p : Nat → Bool) (s : ByteArray) (w : World) (hs : s.size ≤ 4294967296) (hp : PredAtRunes Tryz.prog g lb p w) :
    Calls Tryz.prog 40 #[.string s, .func (.func g) #[] lb] w fun e w' => ∃ A, e = .returned (.slice (some ⟨A, 0, none⟩) (Lib.goFieldsP p s).length (Lib.goFieldsP p s).length) ∧ w.heap.size ≤ A ∧
      w'.ownsRow w.heap.size 9 1 (.slice (some ⟨A, 0, none⟩) (Lib.goFieldsP p s).length (Lib.goFieldsP p s).length) (Lib.goFieldsP p s).length ((Lib.goFieldsP p s).map Value.string) ∧ Below w.heap.size w w' := Any.strings_FieldsFunc_runes Tryz.lays229 g lb eg p s w hs hp (by kernel_rfl) (by kernel_rfl)
def Tryz.lays7_32_ren : Go.Shelf.Ren := ⟨fun | 32 => 67 | 49 => 92 | n => n, fun | 0 => 0 | 3 => 3 | 4 => 4 | 5 => 5 | 21 => 21 | 25 => 38 | 30 => 60 | 33 => 85 | 66 => 113 | 68 => 115 | 69 => 116 | n => n, fun | 0 => 6 | 1 => 7 | 2 => 1 | 3 => 2 | n => n⟩
theorem Tryz.lays7_32 : Go.Proofs.Lays7.n32 Tryz.prog Tryz.lays7_32_ren := {
  mixed := by kernel_rfl,
  f32 := Tryz.func67.trans (congrArg some (by kernel_rfl)),
  f49 := Tryz.func92.trans (congrArg some (by kernel_rfl)),
  t0 := Tryz.underlying0,
  a0 := Tryz.isAgg0,
  z0 := Tryz.sizeOf0,
  v0 := Tryz.zeroValue0,
  i0 := by kernel_rfl,
  t3 := Tryz.underlying3,
  a3 := Tryz.isAgg3,
  z3 := Tryz.sizeOf3,
  v3 := Tryz.zeroValue3,
  i3 := by kernel_rfl,
  t4 := Tryz.underlying4,
  a4 := Tryz.isAgg4,
  z4 := Tryz.sizeOf4,
  v4 := Tryz.zeroValue4,
  i4 := by kernel_rfl,
  t5 := Tryz.underlying5,
  a5 := Tryz.isAgg5,
  z5 := Tryz.sizeOf5,
  v5 := Tryz.zeroValue5,
  i5 := by kernel_rfl,
  t21 := Tryz.underlying21,
  a21 := Tryz.isAgg21,
  z21 := Tryz.sizeOf21,
  v21 := Tryz.zeroValue21,
  i21 := by kernel_rfl,
  t25 := Tryz.underlying38,
  a25 := Tryz.isAgg38,
  z25 := Tryz.sizeOf38,
  v25 := Tryz.zeroValue38,
  i25 := by kernel_rfl,
  t30 := Tryz.underlying60,
  a30 := Tryz.isAgg60,
  z30 := Tryz.sizeOf60,
  v30 := Tryz.zeroValue60,
  i30 := by kernel_rfl,
  t33 := Tryz.underlying85,
  a33 := Tryz.isAgg85,
  z33 := Tryz.sizeOf85,
  v33 := Tryz.zeroValue85,
  i33 := by kernel_rfl,
  t66 := Tryz.underlying113,
  a66 := Tryz.isAgg113,
  z66 := Tryz.sizeOf113,
  t68 := Tryz.underlying115,
  a68 := Tryz.isAgg115,
  z68 := Tryz.sizeOf115,
  v68 := Tryz.zeroValue115,
  i68 := by kernel_rfl,
  t69 := Tryz.underlying116,
  a69 := Tryz.isAgg116,
  z69 := Tryz.sizeOf116,
  v69 := Tryz.zeroValue116,
  i69 := by kernel_rfl,
  g2 := by kernel_rfl,
  g3 := by kernel_rfl }
def Tryz.lays7_35_ren : Go.Shelf.Ren := ⟨fun | 35 => 68 | 52 => 90 | 59 => 109 | n => n, fun | 0 => 0 | 3 => 3 | 4 => 4 | 5 => 5 | 9 => 9 | 20 => 20 | 30 => 60 | 36 => 70 | 38 => 79 | 59 => 72 | 73 => 110 | 89 => 76 | n => n, fun | 0 => 6 | 1 => 7 | 2 => 1 | 3 => 2 | n => n⟩
theorem Tryz.lays7_35 : Go.Proofs.Lays7.n35 Tryz.prog Tryz.lays7_35_ren := {
  mixed := by kernel_rfl,
  f35 := Tryz.func68.trans (congrArg some (by kernel_rfl)),
  f52 := Tryz.func90.trans (congrArg some (by kernel_rfl)),
  f59 := Tryz.func109.trans (congrArg some (by kernel_rfl)),
  t0 := Tryz.underlying0,
  a0 := Tryz.isAgg0,
  z0 := Tryz.sizeOf0,
  v0 := Tryz.zeroValue0,
  i0 := by kernel_rfl,
  t3 := Tryz.underlying3,
  a3 := Tryz.isAgg3,
  z3 := Tryz.sizeOf3,
  v3 := Tryz.zeroValue3,
  i3 := by kernel_rfl,
  t4 := Tryz.underlying4,
  a4 := Tryz.isAgg4,
  z4 := Tryz.sizeOf4,
  v4 := Tryz.zeroValue4,
  i4 := by kernel_rfl,
  t9 := Tryz.underlying9,
  a9 := Tryz.isAgg9,
  z9 := Tryz.sizeOf9,
  v9 := Tryz.zeroValue9,
  i9 := by kernel_rfl,
  t20 := Tryz.underlying20,
  a20 := Tryz.isAgg20,
  z20 := Tryz.sizeOf20,
  v20 := Tryz.zeroValue20,
  i20 := by kernel_rfl,
  t30 := Tryz.underlying60,
  a30 := Tryz.isAgg60,
  z30 := Tryz.sizeOf60,
  v30 := Tryz.zeroValue60,
  i30 := by kernel_rfl,
  t36 := Tryz.underlying70,
  a36 := Tryz.isAgg70,
  z36 := Tryz.sizeOf70,
  v36 := Tryz.zeroValue70,
  i36 := by kernel_rfl,
  t38 := Tryz.underlying79,
  a38 := Tryz.isAgg79,
  z38 := Tryz.sizeOf79,
  v38 := Tryz.zeroValue79,
  i38 := by kernel_rfl,
  t59 := Tryz.underlying72,
  a59 := Tryz.isAgg72,
  z59 := Tryz.sizeOf72,
  v59 := Tryz.zeroValue72,
  i59 := by kernel_rfl,
  t73 := Tryz.underlying110,
  a73 := Tryz.isAgg110,
  z73 := Tryz.sizeOf110,
  v73 := Tryz.zeroValue110,
  i73 := by kernel_rfl }
end Go.Proofs

namespace Go.Proofs.YtekifcbokdidlaaGreatDoor.PA
open Go.RowKit Go.Proofs.YtekifcbokdidlaaGreatDoorW.PrintWords

theorem ex_then_ret {next : Act → World → Prop} {Q : Exit → Act → World → Prop} {a : Act} {w : World} (h : Q Exit.ret a w) : Exit.then next Q Exit.ret a w := h
theorem ex_block_ret {id : Nat} {Q : Exit → Act → World → Prop} {a : Act} {w : World} (h : Q Exit.ret a w) : Exit.inBlock id Q Exit.ret a w := h
theorem ex_noGoto_ret {Q : Exit → Act → World → Prop} {a : Act} {w : World} (h : Q Exit.ret a w) : Exit.noGoto Q Exit.ret a w := h
/-- The two tables of unicode/utf8 stand in their cells. -/
structure Laid (w : World) : Prop where
  tabs : Lib.Utf8Tabs 1 2 w
  size1 : 1 < w.heap.size
  size2 : 2 < w.heap.size
  ml : ∃ m : Int, w.cell? ⟨0, 0, none⟩ = some (.int .i64 m)
  size : 0 < w.heap.size
theorem Laid.go {w W : World} (h : Laid w) (hb : Below w.heap.size w W) : Laid W where
  tabs := by
    refine ⟨fun c hc => ?_, fun i hi => ⟨?_, ?_⟩⟩
    · rw [← h.tabs.1 c hc]
      exact hb.cell (by have := h.size1; show 1 < w.heap.size; omega)
    · rw [← (h.tabs.2 i hi).1]
      exact hb.cell (by have := h.size2; show 2 < w.heap.size; omega)
    · rw [← (h.tabs.2 i hi).2]
      exact hb.cell (by have := h.size2; show 2 < w.heap.size; omega)
  size1 := by have := h.size1; have := hb.size; omega
  size2 := by have := h.size2; have := hb.size; omega
  ml := by
    obtain ⟨m, hm⟩ := h.ml
    refine ⟨m, ?_⟩
    rw [← hm]
    exact hb.cell (by have := h.size; show 0 < w.heap.size; omega)
  size := by have := h.size; have := hb.size; omega
end Go.Proofs.YtekifcbokdidlaaGreatDoor.PA

namespace Go.Proofs.YtekifcbokdidlaaGreatDoor.PA
open Go.RowKit Go.Proofs.YtekifcbokdidlaaGreatDoorW.PrintWords

theorem retNe (l : List UInt8) : Ending.returned (Value.bool (!l.isEmpty)) = Ending.returned (Value.bool (l != ([] : List UInt8))) := by cases l <;> rfl
end Go.Proofs.YtekifcbokdidlaaGreatDoor.PA

namespace Go.Proofs.YtekifcbokdidlaaGreatDoor.RowU8
open Go.ChangeShapes Go.WideShapes Go.ChangeAt Go.RowKit Go.Lib

theorem own : ownKnob Tryz.prog.godebug = none := by kernel_rfl
theorem u8x : U8Extra Tryz.prog Tryz.lays260_ren := {
  n3 := by kernel_rfl,
  n4 := by kernel_rfl,
  y3 := by kernel_rfl,
  y4 := by kernel_rfl,
  c5 := by kernel_rfl,
  c119 := by kernel_rfl,
  c138 := by kernel_rfl }
theorem acc_eq : (Rows.laid_unicode_utf8_acceptRanges : DataW Unit) = acceptData := by kernel_rfl
theorem first_eq : (Rows.laid_unicode_utf8_first : DataW Unit) = firstData := by kernel_rfl
theorem var_lt {P : Program} {w : World} {n : String} {d : DataW Unit} (h : VarReads P w n d) (g : Nat) (hg : P.globalNamed n = some g) : g < w.heap.size := by
  obtain ⟨g', t, cs, fuel, p, h1, h2, h3, h4⟩ := h
  obtain rfl := Option.some.inj (hg.symm.trans h1)
  unfold World.var? at h3
  rw [hg] at h3
  simp only [Option.bind_some] at h3
  rcases Nat.lt_or_ge g w.heap.size with h' | h'
  · exact h'
  · simp [Array.getElem?_eq_none h'] at h3
theorem laidOf {L : List (String × DataW Unit)} {W : World} (h : W.ShapedOpen Tryz.prog) (hL : laidMetH Tryz.prog L W) (hp : (L.all fun x => x.2.handleName?.isNone) = true)
    (h1 : ("unicode/utf8.first", Rows.laid_unicode_utf8_first) ∈ L) (h2 : ("unicode/utf8.acceptRanges", (Rows.laid_unicode_utf8_acceptRanges : DataW Unit)) ∈ L) : PA.Laid W := by
  have hm : ∃ m : Int, W.cell? ⟨0, 0, none⟩ = some (.int .i64 m) :=
    cell_of_shapedOpen_int (t := 3) (zero := #[.int .i64 0]) h (of_decide_eq_true (by kernel_rfl)) (by kernel_rfl) rfl (by kernel_rfl) (by kernel_rfl) Tryz.underlying3
  obtain ⟨m, hm'⟩ := hm
  rw [MakeChecks.laidMetH_plain _ _ _ hp] at hL
  have h4 := laidMet.reads hL h2
  have h3 := laidMet.reads hL h1
  rw [acc_eq] at h4
  rw [first_eq] at h3
  refine ⟨utf8Tabs_of_reads Tryz.lays260 u8x h3 h4, var_lt h3 _ (by kernel_rfl), var_lt h4 _ (by kernel_rfl), ⟨m, hm'⟩, ?_⟩
  rcases Nat.lt_or_ge 0 W.heap.size with h' | h'
  · exact h'
  · simp [World.cell?, Array.getElem?_eq_none h'] at hm'
def layCells (a : Array Value) : Obj → Obj
  | .cells _ t frozen => .cells a t frozen
  | o => o
def firstCells : Array Value := ((List.range 256).map fun c => Value.int .u8 (firstT c)).toArray
/-- A world for the witness: what the dump's own initialisers leave (where unicode/utf8.first is listed: it holds what its row says). -/
noncomputable def laidWorld (os : Os) : World := { varsWorld Tryz.prog 200 (varsId Tryz.prog) os (fun _ _ => 0) with heap := (varsWorld Tryz.prog 200 (varsId Tryz.prog) os (fun _ _ => 0)).heap.modify 1 (layCells firstCells) }
theorem laidWorld_os (os : Os) : (laidWorld os).os = os := by kernel_rfl
end Go.Proofs.YtekifcbokdidlaaGreatDoor.RowU8

namespace Go.Proofs.YtekifcbokdidlaaGreatDoor.Pl
open Go.RowKit Go.Proofs.YtekifcbokdidlaaGreatDoorW.PrintWords

/-- A list of bytes as a text. -/
def B (l : List UInt8) : ByteArray := ⟨l.toArray⟩
theorem B_eta (a : ByteArray) : B a.data.toList = a := rfl
theorem B_data (l : List UInt8) : (B l).data.toList = l := by simp [B]
theorem B_toList (l : List UInt8) : (B l).toList = l := by rw [Lib.toList_data, B_data]
theorem B_size (l : List UInt8) : (B l).size = l.length := by show l.toArray.size = _; simp
theorem B_ext {a b : ByteArray} (h : a.data.toList = b.data.toList) : a = b := by rw [← B_eta a, ← B_eta b, h]
theorem B_extract (l : List UInt8) (i j : Nat) : (B l).extract i j = B ((l.drop i).take (j - i)) := by
  apply B_ext
  rw [B_data, Lib.extract_data, B_data]
theorem B_from (l : List UInt8) (i n : Nat) (h : n = l.length) : (B l).extract i n = B (l.drop i) := by
  rw [B_extract, List.take_of_length_le (by simp; omega)]
theorem B_to (l : List UInt8) (j : Nat) : (B l).extract 0 j = B (l.take j) := by rw [B_extract, List.drop_zero, Nat.sub_zero]
theorem B_bt (l : List UInt8) (i : Nat) (h : i < l.length) : bt (B l) (i : Int) = ((l[i]'h).toNat : Int) := by
  unfold bt
  have hs := B_size l
  rw [dif_pos (by rw [Int.toNat_natCast]; omega)]
  have : (B l)[(i : Int).toNat]'(by rw [Int.toNat_natCast]; omega) = l[i]'h := by
    show (B l).data[(i : Int).toNat] = _
    simp [B]
  rw [this]
theorem w64 {x : Int} (h0 : -9223372036854775808 ≤ x) (h1 : x ≤ 9223372036854775807) : wrap64 x = x := by unfold wrap64; omega
theorem u8_eq (x : UInt8) (n : Nat) (h : n < 256) : ((x.toNat : Int) = (n : Int)) ↔ x = UInt8.ofNat n := by
  constructor
  · intro e
    apply UInt8.toNat_inj.1
    rw [UInt8.toNat_ofNat']
    omega
  · intro e
    subst e
    rw [UInt8.toNat_ofNat']
    omega
theorem getD_B {l : List (List UInt8)} (i : Nat) (h : i < l.length) : rdOf ByteArray.empty (l.map B) (i : Int) = B (l[i]'h) := by
  unfold rdOf
  rw [Int.toNat_natCast, List.getD_eq_getElem?_getD, List.getElem?_map, List.getElem?_eq_getElem h]
  rfl
theorem getD_at (l : List ByteArray) (i : Nat) (h : i < l.length) : rdOf ByteArray.empty l (i : Int) = l[i]'h := by
  unfold rdOf
  rw [Int.toNat_natCast, List.getD_eq_getElem?_getD, List.getElem?_eq_getElem h]
  rfl
end Go.Proofs.YtekifcbokdidlaaGreatDoor.Pl

namespace Go.Proofs.YtekifcbokdidlaaGreatDoor.PA
open Go.RowKit Go.Proofs.YtekifcbokdidlaaGreatDoor.Pl
set_option linter.unusedVariables false

/-- A digit's value. -/
def dv (x : UInt8) : Nat := if 48 ≤ x.toNat ∧ x.toNat ≤ 57 then x.toNat - 48 else (x.toNat ||| 32) - 87
def dOk (b : Nat) (x : UInt8) : Prop := (48 ≤ x.toNat ∧ x.toNat ≤ 57) ∨ (b = 16 ∧ 97 ≤ (x.toNat ||| 32) ∧ (x.toNat ||| 32) ≤ 102)
instance (b : Nat) (x : UInt8) : Decidable (dOk b x) := by unfold dOk; exact inferInstance
def num (b : Nat) (l : List UInt8) : Nat := l.foldl (fun n x => n * b + dv x) 0
theorem num_snoc (b : Nat) (l : List UInt8) (x : UInt8) : num b (l ++ [x]) = num b l * b + dv x := by simp [num]
theorem hexL (x : UInt8) (h : 97 ≤ (x.toNat ||| 32)) (h2 : (x.toNat ||| 32) ≤ 102) : 57 < x.toNat := by
  have h0 : ∀ y : Fin 256, 97 ≤ (y.val ||| 32) → 57 < y.val := by decide +kernel
  exact h0 ⟨x.toNat, x.toNat_lt⟩ h
theorem hexU (x : UInt8) (h : 97 ≤ (x.toNat ||| 32)) (h2 : (x.toNat ||| 32) ≤ 102) : x.toNat ≠ 95 := by
  have h0 : ∀ y : Fin 256, 97 ≤ (y.val ||| 32) → (y.val ||| 32) ≤ 102 → y.val ≠ 95 := by decide +kernel
  exact h0 ⟨x.toNat, x.toNat_lt⟩ h h2
theorem dv_le (b : Nat) (x : UInt8) (h : dOk b x) (hb : b = 10 ∨ b = 16) : dv x < b := by
  unfold dv
  rcases h with h | ⟨h1, h2, h3⟩
  · rw [if_pos h]
    omega
  · have := hexL x h2 h3
    rw [if_neg (by omega)]
    omega
theorem num_lt (b : Nat) (hb : b = 10 ∨ b = 16) : ∀ (n : Nat) (l : List UInt8), l.length = n → (∀ x ∈ l, dOk b x) → num b l + 1 ≤ 16 ^ n := by
  intro n
  induction n with
  | zero =>
    intro l hl _
    obtain rfl := List.length_eq_zero_iff.1 hl
    exact Nat.le_refl _
  | succ n ih =>
    intro l hl h
    rcases List.eq_nil_or_concat l with rfl | ⟨q, y, rfl⟩
    · cases hl
    · rw [List.concat_eq_append] at *
      have h1 := ih q (by simpa using hl) (fun x hx => h x (List.mem_append_left _ hx))
      have h2 := dv_le b y (h y (by simp)) hb
      rw [num_snoc, Nat.pow_succ]
      have h3 : num b q * b ≤ num b q * 16 := Nat.mul_le_mul_left _ (by omega)
      omega
theorem or32 (x : UInt8) : bits .or .u8 (x.toNat : Int) 32 = ((x.toNat ||| 32 : Nat) : Int) := by
  have h : ∀ y : Fin 256, bits .or .u8 (y.val : Int) 32 = ((y.val ||| 32 : Nat) : Int) := by decide +kernel
  exact h ⟨x.toNat, x.toNat_lt⟩
theorem lower_any (x : UInt8) (w : World) : Calls Tryz.prog 151 #[.int .u8 (x.toNat : Int)] w fun e w' => e = .returned (.int .u8 ((x.toNat ||| 32 : Nat) : Int)) ∧ w = w' := by
  have h := or32 x
  go_enter Tryz.func151, Tryz.ntmps151
  go_wp2
  go_ret
  exact ⟨by first | rfl | (rw [← h]; rfl) | (simp [h]; done), rfl⟩
set_option maxHeartbeats 32000000 in
set_option maxRecDepth 100000 in
theorem puint10 (s : List UInt8) (h0 : s ≠ []) (h7 : s.length ≤ 7) (hd : ∀ x ∈ s, dOk 10 x) (w : World) :
    Calls Tryz.prog 146 #[.string (B s), .int .i64 10, .int .i64 32] w fun e w' => e = .returned (.tuple #[.int .u64 (num 10 s : Nat), .nilIface]) ∧ Below w.heap.size w w' := by
  have hsz : (B s).size = s.length := B_size s
  have hemp : (B s).toList.isEmpty = false := by
    rw [B_toList]
    cases s with
    | nil => exact absurd rfl h0
    | cons _ _ => rfl
  have hcv := Lib.run_convert_string_bytes (P := Tryz.prog) w 9 60 5 (B s) (u := .string) Tryz.underlying9 Tryz.underlying60 Tryz.underlying5
  have hBc : ∀ j, j < s.length → (Lib.bytesWorld w 5 (B s)).cell? ⟨w.heap.size, j, none⟩ = some (.int .u8 ((B s).data.toList.getD j 0).toNat) := fun j hj => Lib.bytesWorld_cell w 5 (B s) j (by omega)
  have hBel : Below w.heap.size w (Lib.bytesWorld w 5 (B s)) := (Below.refl _ w).grown (row := none) ⟨rfl, rfl, rfl, by rw [Lib.bytesWorld_size]; omega, fun k hk _ => Lib.bytesWorld_at_old w _ _ k hk⟩ (Nat.le_refl _) (fun k hk => by cases hk)
  obtain ⟨W1, hW1⟩ : ∃ W1, W1 = Lib.bytesWorld w 5 (B s) := ⟨_, rfl⟩
  rw [← hW1] at hcv hBc hBel
  clear hW1
  rw [hsz] at hcv
  rw [B_data] at hBc
  have hmv : IntKind.u64.wrap (IntKind.u64.wrap 4294967296 - 1) = 4294967295 := by
    rw [IntKind.wrap_u64, IntKind.wrap_u64]
    decide
  have HB := Lib.hid hBel
  have HD := Lib.hid hd
  clear hBel hsz hd
  obtain ⟨nb, hnb⟩ : ∃ nb : List UInt8 → Nat, nb = num 10 := ⟨_, rfl⟩
  have HNS := Lib.hid (show ∀ l x, nb (l ++ [x]) = nb l * 10 + dv x from fun l x => by rw [hnb]; exact num_snoc 10 l x)
  have HN0 := Lib.hid (show nb [] = 0 by rw [hnb]; rfl)
  rw [← hnb]
  clear hnb
  go_enter Tryz.func146, Tryz.ntmps146
  go_wp2
  go_loop [12, 13, 101] (fun vu vn vi => ∃ (k : Nat) (a : Int), vu = .bool false ∧ vn = .int .u64 a ∧ vi = .int .i64 k ∧ k ≤ s.length ∧ Hid (a = ((nb (s.take k) : Nat) : Int) ∧ nb (s.take k) + 1 ≤ 16 ^ k))
    (fun _ _ vi => s.length - (intOf vi).toNat)
  case atStart => exact ⟨0, 0, rfl, rfl, rfl, by omega, by rw [List.take_zero, HN0.out]; rfl, by rw [List.take_zero, HN0.out]; exact Nat.le_refl _⟩
  case round =>
    obtain ⟨k, a, rfl, rfl, rfl, hk, hh⟩ := hrel
    obtain ⟨ha, hle⟩ := hh.out
    clear hh
    have a0 : 0 ≤ a := by omega
    by_cases hkn : k < s.length
    · have hc := hBc k hkn
      have hget : s.getD k 0 = s[k] := by rw [List.getD_eq_getElem?_getD, List.getElem?_eq_getElem hkn]; rfl
      have hdk := HD.out s[k] (List.getElem_mem hkn)
      have hsn := HNS.out (s.take k) s[k]
      rw [List.take_append_getElem hkn] at hsn
      rw [hget] at hc
      have h16 : (16 : Nat) ^ k ≤ 16 ^ 6 := Nat.pow_le_pow_right (by decide) (by omega)
      have a1 : a ≤ 16777215 := by omega
      have hdv := dv_le 10 s[k] hdk (by decide)
      have hs16 : (16 : Nat) ^ (k + 1) = 16 ^ k * 16 := Nat.pow_succ _ _
      have hdd : dv s[k] = if 48 ≤ s[k].toNat ∧ s[k].toNat ≤ 57 then s[k].toNat - 48 else (s[k].toNat ||| 32) - 87 := rfl
      clear hBc hget
      generalize s[k] = c at *
      have hc256 : c.toNat < 256 := c.toNat_lt
      by_cases hdig : 48 ≤ c.toNat ∧ c.toNat ≤ 57
      · obtain ⟨hd0, hd1⟩ := hdig
        rw [if_pos ⟨hd0, hd1⟩] at hdd
        have HN : Hid (a * 10 + ((c.toNat : Int) - 48) = ((nb (s.take (k + 1)) : Nat) : Int) ∧ nb (s.take (k + 1)) + 1 ≤ 16 ^ (k + 1)) := Lib.hid ⟨by omega, by omega⟩
        have q95 : ((c.toNat : Int) == 95) = false := beq_eq_false_iff_ne.2 (by omega)
        clear ha hle h16 hs16 hdk hdv hsn hdd
        go_wp2
        refine ⟨⟨k + 1, a * 10 + ((c.toNat : Int) - 48), rfl, (by first | rfl | (congr 1; omega)), (by first | rfl | (congr 1; omega)), by omega, HN⟩, by simp [intOf]; omega⟩
      · rcases hdk with hx | ⟨hx, hlo, hhi⟩
        · exact absurd hx hdig
        · exact absurd hx (by decide)
    · have hge : s.length ≤ k := by omega
      have HA := Lib.hid (show a = ((nb s : Nat) : Int) by rw [ha, List.take_of_length_le hge])
      have h16 : (16 : Nat) ^ k ≤ 16 ^ 7 := Nat.pow_le_pow_right (by decide) (by omega)
      have a1 : a ≤ 268435455 := by omega
      have hkb : decide (k < s.length) = false := decide_eq_false hkn
      clear ha hle h16 hBc
      go_wp2
      go_ret2
      exact ⟨congrArg (fun z => Ending.returned (.tuple #[.int .u64 z, .nilIface])) HA.out, HB.out⟩
set_option maxHeartbeats 32000000 in
set_option maxRecDepth 100000 in
theorem pint10 (s : List UInt8) (h0 : s ≠ []) (h7 : s.length ≤ 7) (hd : ∀ x ∈ s, dOk 10 x) (w : World) :
    Calls Tryz.prog 143 #[.string (B s), .int .i64 10, .int .i64 32] w fun e w' => e = .returned (.tuple #[.int .i64 (num 10 s : Nat), .nilIface]) ∧ Below w.heap.size w w' := by
  have hl := num_lt 10 (by decide) s.length s rfl hd
  have h16 : (16 : Nat) ^ s.length ≤ 16 ^ 7 := Nat.pow_le_pow_right (by decide) (by omega)
  have hpu := puint10 s h0 h7 hd
  obtain ⟨nn, hnn⟩ : ∃ nn : Int, nn = ((num 10 s : Nat) : Int) := ⟨_, rfl⟩
  have n0 : 0 ≤ nn := by omega
  have n1 : nn ≤ 268435455 := by omega
  rw [← hnn] at hpu ⊢
  clear hl h16 hnn
  have hemp : (B s).toList.isEmpty = false := by
    rw [B_toList]
    cases s with
    | nil => exact absurd rfl h0
    | cons _ _ => rfl
  have hpos : 0 < (B s).size := by rw [B_size]; exact List.length_pos_iff.2 h0
  have hb0 : (B s)[0]'hpos = s[0]'(List.length_pos_iff.2 h0) := List.getElem_toArray (List.length_pos_iff.2 h0)
  have hx : 48 ≤ ((B s)[0]'hpos).toNat := by
    rw [hb0]
    rcases hd _ (List.getElem_mem (List.length_pos_iff.2 h0)) with h | ⟨_, h1, h2⟩
    · exact h.1
    · have := hexL _ h1 h2
      omega
  clear hb0
  have q1 : ((((B s)[0]'hpos).toNat : Int) == 43) = false := beq_eq_false_iff_ne.2 (by omega)
  have q2 : ((((B s)[0]'hpos).toNat : Int) == 45) = false := beq_eq_false_iff_ne.2 (by omega)
  have HPU := Lib.hid hpu
  clear hpu hd
  go_enter Tryz.func143, Tryz.ntmps143
  go_wp2_with fail
  refine (HPU.out _).mono ?_
  rintro e w1 ⟨rfl, hb⟩
  go_wp2
  go_ret2
  exact ⟨rfl, hb⟩
set_option maxHeartbeats 32000000 in
set_option maxRecDepth 100000 in
theorem parseInt10 (s : List UInt8) (h0 : s ≠ []) (h7 : s.length ≤ 7) (hd : ∀ x ∈ s, dOk 10 x) (w : World) :
    Calls Tryz.prog 137 #[.string (B s), .int .i64 10, .int .i64 32] w fun e w' => e = .returned (.tuple #[.int .i64 (num 10 s : Nat), .nilIface]) ∧ Below w.heap.size w w' := by
  have HPI := Lib.hid (pint10 s h0 h7 hd w)
  go_enter Tryz.func137, Tryz.ntmps137
  go_wp2_with fail
  refine HPI.out.mono ?_
  rintro e w1 ⟨rfl, hb⟩
  go_wp2
  go_ret2
  exact ⟨rfl, hb⟩
set_option maxHeartbeats 32000000 in
set_option maxRecDepth 100000 in
theorem puint16 (s : List UInt8) (h0 : s ≠ []) (h7 : s.length ≤ 7) (hd : ∀ x ∈ s, dOk 16 x) (w : World) :
    Calls Tryz.prog 146 #[.string (B s), .int .i64 16, .int .i64 32] w fun e w' => e = .returned (.tuple #[.int .u64 (num 16 s : Nat), .nilIface]) ∧ Below w.heap.size w w' := by
  have hsz : (B s).size = s.length := B_size s
  have hemp : (B s).toList.isEmpty = false := by
    rw [B_toList]
    cases s with
    | nil => exact absurd rfl h0
    | cons _ _ => rfl
  have hcv := Lib.run_convert_string_bytes (P := Tryz.prog) w 9 60 5 (B s) (u := .string) Tryz.underlying9 Tryz.underlying60 Tryz.underlying5
  have hBc : ∀ j, j < s.length → (Lib.bytesWorld w 5 (B s)).cell? ⟨w.heap.size, j, none⟩ = some (.int .u8 ((B s).data.toList.getD j 0).toNat) := fun j hj => Lib.bytesWorld_cell w 5 (B s) j (by omega)
  have hBel : Below w.heap.size w (Lib.bytesWorld w 5 (B s)) := (Below.refl _ w).grown (row := none) ⟨rfl, rfl, rfl, by rw [Lib.bytesWorld_size]; omega, fun k hk _ => Lib.bytesWorld_at_old w _ _ k hk⟩ (Nat.le_refl _) (fun k hk => by cases hk)
  obtain ⟨W1, hW1⟩ : ∃ W1, W1 = Lib.bytesWorld w 5 (B s) := ⟨_, rfl⟩
  rw [← hW1] at hcv hBc hBel
  clear hW1
  rw [hsz] at hcv
  rw [B_data] at hBc
  have hmv : IntKind.u64.wrap (IntKind.u64.wrap 4294967296 - 1) = 4294967295 := by
    rw [IntKind.wrap_u64, IntKind.wrap_u64]
    decide
  have HB := Lib.hid hBel
  have HD := Lib.hid hd
  clear hBel hsz hd
  obtain ⟨nb, hnb⟩ : ∃ nb : List UInt8 → Nat, nb = num 16 := ⟨_, rfl⟩
  have HNS := Lib.hid (show ∀ l x, nb (l ++ [x]) = nb l * 16 + dv x from fun l x => by rw [hnb]; exact num_snoc 16 l x)
  have HN0 := Lib.hid (show nb [] = 0 by rw [hnb]; rfl)
  rw [← hnb]
  clear hnb
  go_enter Tryz.func146, Tryz.ntmps146
  go_wp2
  go_loop [12, 13, 101] (fun vu vn vi => ∃ (k : Nat) (a : Int), vu = .bool false ∧ vn = .int .u64 a ∧ vi = .int .i64 k ∧ k ≤ s.length ∧ Hid (a = ((nb (s.take k) : Nat) : Int) ∧ nb (s.take k) + 1 ≤ 16 ^ k))
    (fun _ _ vi => s.length - (intOf vi).toNat)
  case atStart => exact ⟨0, 0, rfl, rfl, rfl, by omega, by rw [List.take_zero, HN0.out]; rfl, by rw [List.take_zero, HN0.out]; exact Nat.le_refl _⟩
  case round =>
    obtain ⟨k, a, rfl, rfl, rfl, hk, hh⟩ := hrel
    obtain ⟨ha, hle⟩ := hh.out
    clear hh
    have a0 : 0 ≤ a := by omega
    by_cases hkn : k < s.length
    · have hc := hBc k hkn
      have hget : s.getD k 0 = s[k] := by rw [List.getD_eq_getElem?_getD, List.getElem?_eq_getElem hkn]; rfl
      have hdk := HD.out s[k] (List.getElem_mem hkn)
      have hsn := HNS.out (s.take k) s[k]
      rw [List.take_append_getElem hkn] at hsn
      rw [hget] at hc
      have h16 : (16 : Nat) ^ k ≤ 16 ^ 6 := Nat.pow_le_pow_right (by decide) (by omega)
      have a1 : a ≤ 16777215 := by omega
      have hdv := dv_le 16 s[k] hdk (by decide)
      have hs16 : (16 : Nat) ^ (k + 1) = 16 ^ k * 16 := Nat.pow_succ _ _
      have hdd : dv s[k] = if 48 ≤ s[k].toNat ∧ s[k].toNat ≤ 57 then s[k].toNat - 48 else (s[k].toNat ||| 32) - 87 := rfl
      clear hBc hget
      generalize s[k] = c at *
      have hc256 : c.toNat < 256 := c.toNat_lt
      by_cases hdig : 48 ≤ c.toNat ∧ c.toNat ≤ 57
      · obtain ⟨hd0, hd1⟩ := hdig
        rw [if_pos ⟨hd0, hd1⟩] at hdd
        have HN : Hid (a * 16 + ((c.toNat : Int) - 48) = ((nb (s.take (k + 1)) : Nat) : Int) ∧ nb (s.take (k + 1)) + 1 ≤ 16 ^ (k + 1)) := Lib.hid ⟨by omega, by omega⟩
        have q95 : ((c.toNat : Int) == 95) = false := beq_eq_false_iff_ne.2 (by omega)
        clear ha hle h16 hs16 hdk hdv hsn hdd
        go_wp2
        refine ⟨⟨k + 1, a * 16 + ((c.toNat : Int) - 48), rfl, (by first | rfl | (congr 1; omega)), (by first | rfl | (congr 1; omega)), by omega, HN⟩, by simp [intOf]; omega⟩
      · rcases hdk with hx | ⟨hx, hlo, hhi⟩
        · exact absurd hx hdig
        · have hgt := hexL c hlo hhi
          rw [if_neg hdig] at hdd
          have hu := hexU c hlo hhi
          have q95 : ((c.toNat : Int) == 95) = false := beq_eq_false_iff_ne.2 (by omega)
          have HL := lower_any c
          generalize (c.toNat ||| 32) = m at *
          have HN : Hid (a * 16 + ((m : Int) - 97 + 10) = ((nb (s.take (k + 1)) : Nat) : Int) ∧ nb (s.take (k + 1)) + 1 ≤ 16 ^ (k + 1)) := Lib.hid ⟨by omega, by omega⟩
          have HLH := Lib.hid HL
          clear ha hle h16 hs16 hdv hsn hdd hx hdig HL hu
          go_wp2_with (go_at_call 151; refine (HLH.out _).mono ?_; rintro e w' ⟨rfl, rfl⟩)
          refine ⟨⟨k + 1, a * 16 + ((m : Int) - 97 + 10), rfl, (by first | rfl | (congr 1; omega)), (by first | rfl | (congr 1; omega)), by omega, HN⟩, by simp [intOf]; omega⟩
    · have hge : s.length ≤ k := by omega
      have HA := Lib.hid (show a = ((nb s : Nat) : Int) by rw [ha, List.take_of_length_le hge])
      have h16 : (16 : Nat) ^ k ≤ 16 ^ 7 := Nat.pow_le_pow_right (by decide) (by omega)
      have a1 : a ≤ 268435455 := by omega
      have hkb : decide (k < s.length) = false := decide_eq_false hkn
      clear ha hle h16 hBc
      go_wp2
      go_ret2
      exact ⟨congrArg (fun z => Ending.returned (.tuple #[.int .u64 z, .nilIface])) HA.out, HB.out⟩
set_option maxHeartbeats 32000000 in
set_option maxRecDepth 100000 in
theorem pint16 (s : List UInt8) (h0 : s ≠ []) (h7 : s.length ≤ 7) (hd : ∀ x ∈ s, dOk 16 x) (w : World) :
    Calls Tryz.prog 143 #[.string (B s), .int .i64 16, .int .i64 32] w fun e w' => e = .returned (.tuple #[.int .i64 (num 16 s : Nat), .nilIface]) ∧ Below w.heap.size w w' := by
  have hl := num_lt 16 (by decide) s.length s rfl hd
  have h16 : (16 : Nat) ^ s.length ≤ 16 ^ 7 := Nat.pow_le_pow_right (by decide) (by omega)
  have hpu := puint16 s h0 h7 hd
  obtain ⟨nn, hnn⟩ : ∃ nn : Int, nn = ((num 16 s : Nat) : Int) := ⟨_, rfl⟩
  have n0 : 0 ≤ nn := by omega
  have n1 : nn ≤ 268435455 := by omega
  rw [← hnn] at hpu ⊢
  clear hl h16 hnn
  have hemp : (B s).toList.isEmpty = false := by
    rw [B_toList]
    cases s with
    | nil => exact absurd rfl h0
    | cons _ _ => rfl
  have hpos : 0 < (B s).size := by rw [B_size]; exact List.length_pos_iff.2 h0
  have hb0 : (B s)[0]'hpos = s[0]'(List.length_pos_iff.2 h0) := List.getElem_toArray (List.length_pos_iff.2 h0)
  have hx : 48 ≤ ((B s)[0]'hpos).toNat := by
    rw [hb0]
    rcases hd _ (List.getElem_mem (List.length_pos_iff.2 h0)) with h | ⟨_, h1, h2⟩
    · exact h.1
    · have := hexL _ h1 h2
      omega
  clear hb0
  have q1 : ((((B s)[0]'hpos).toNat : Int) == 43) = false := beq_eq_false_iff_ne.2 (by omega)
  have q2 : ((((B s)[0]'hpos).toNat : Int) == 45) = false := beq_eq_false_iff_ne.2 (by omega)
  have HPU := Lib.hid hpu
  clear hpu hd
  go_enter Tryz.func143, Tryz.ntmps143
  go_wp2_with fail
  refine (HPU.out _).mono ?_
  rintro e w1 ⟨rfl, hb⟩
  go_wp2
  go_ret2
  exact ⟨rfl, hb⟩
set_option maxHeartbeats 32000000 in
set_option maxRecDepth 100000 in
theorem parseInt16 (s : List UInt8) (h0 : s ≠ []) (h7 : s.length ≤ 7) (hd : ∀ x ∈ s, dOk 16 x) (w : World) :
    Calls Tryz.prog 137 #[.string (B s), .int .i64 16, .int .i64 32] w fun e w' => e = .returned (.tuple #[.int .i64 (num 16 s : Nat), .nilIface]) ∧ Below w.heap.size w w' := by
  have HPI := Lib.hid (pint16 s h0 h7 hd w)
  go_enter Tryz.func137, Tryz.ntmps137
  go_wp2_with fail
  refine HPI.out.mono ?_
  rintro e w1 ⟨rfl, hb⟩
  go_wp2
  go_ret2
  exact ⟨rfl, hb⟩
end Go.Proofs.YtekifcbokdidlaaGreatDoor.PA

namespace Go.Proofs.YtekifcbokdidlaaGreatDoor.Pl

/-- The names, sorted, and their characters' numbers. -/
def entL : List (List UInt8 × Nat) := [
  ([65, 69, 108, 105, 103], 198), ([65, 97, 99, 117, 116, 101], 193), ([65, 99, 105, 114, 99], 194), ([65, 103, 114, 97, 118, 101], 192), ([65, 108, 112, 104, 97], 913), ([65, 114, 105, 110, 103], 197),
  ([65, 116, 105, 108, 100, 101], 195), ([65, 117, 109, 108], 196), ([66, 101, 116, 97], 914), ([67, 99, 101, 100, 105, 108], 199), ([67, 108, 111, 99, 107, 119, 105, 115, 101, 67, 111, 110, 116, 111, 117, 114, 73, 110, 116, 101, 103, 114, 97, 108], 8754), ([68, 97, 103, 103, 101, 114], 8225),
  ([68, 99, 97, 114, 111, 110], 270), ([68, 101, 108, 116, 97], 916), ([68, 105, 102, 102, 101, 114, 101, 110, 116, 105, 97, 108, 68], 8518), ([69, 84, 72], 208), ([69, 97, 99, 117, 116, 101], 201), ([69, 99, 105, 114, 99], 202),
  ([69, 103, 114, 97, 118, 101], 200), ([69, 117, 109, 108], 203), ([71, 97, 109, 109, 97], 915), ([72, 105, 108, 98, 101, 114, 116, 83, 112, 97, 99, 101], 8459), ([73, 97, 99, 117, 116, 101], 205), ([73, 99, 105, 114, 99], 206),
  ([73, 103, 114, 97, 118, 101], 204), ([73, 117, 109, 108], 207), ([78, 116, 105, 108, 100, 101], 209), ([79, 69, 108, 105, 103], 338), ([79, 97, 99, 117, 116, 101], 211), ([79, 99, 105, 114, 99], 212),
  ([79, 103, 114, 97, 118, 101], 210), ([79, 109, 101, 103, 97], 937), ([79, 115, 108, 97, 115, 104], 216), ([79, 116, 105, 108, 100, 101], 213), ([79, 117, 109, 108], 214), ([83, 99, 97, 114, 111, 110], 352),
  ([84, 72, 79, 82, 78], 222), ([85, 97, 99, 117, 116, 101], 218), ([85, 99, 105, 114, 99], 219), ([85, 103, 114, 97, 118, 101], 217), ([85, 117, 109, 108], 220), ([89, 97, 99, 117, 116, 101], 221),
  ([89, 117, 109, 108], 376), ([97, 97, 99, 117, 116, 101], 225), ([97, 99, 105, 114, 99], 226), ([97, 99, 117, 116, 101], 180), ([97, 101, 108, 105, 103], 230), ([97, 103, 114, 97, 118, 101], 224),
  ([97, 108, 112, 104, 97], 945), ([97, 109, 112], 38), ([97, 112, 111, 115], 39), ([97, 114, 105, 110, 103], 229), ([97, 115, 121, 109, 112], 8776), ([97, 116, 105, 108, 100, 101], 227),
  ([97, 117, 109, 108], 228), ([98, 100, 113, 117, 111], 8222), ([98, 101, 116, 97], 946), ([98, 114, 118, 98, 97, 114], 166), ([98, 117, 108, 108], 8226), ([99, 97, 112], 8745),
  ([99, 99, 101, 100, 105, 108], 231), ([99, 101, 100, 105, 108], 184), ([99, 101, 110, 116], 162), ([99, 105, 114, 99], 710), ([99, 108, 117, 98, 115], 9827), ([99, 111, 112, 121], 169),
  ([99, 117, 112], 8746), ([99, 117, 114, 114, 101, 110], 164), ([100, 97, 103, 103, 101, 114], 8224), ([100, 97, 114, 114], 8595), ([100, 101, 103], 176), ([100, 101, 108, 116, 97], 948),
  ([100, 105, 97, 109, 115], 9830), ([100, 105, 118, 105, 100, 101], 247), ([101, 97, 99, 117, 116, 101], 233), ([101, 99, 105, 114, 99], 234), ([101, 103, 114, 97, 118, 101], 232), ([101, 109, 112, 116, 121], 8709),
  ([101, 109, 115, 112], 8195), ([101, 110, 115, 112], 8194), ([101, 112, 115, 105, 108, 111, 110], 949), ([101, 113, 117, 105, 118], 8801), ([101, 116, 104], 240), ([101, 117, 109, 108], 235),
  ([101, 117, 114, 111], 8364), ([101, 120, 105, 115, 116], 8707), ([102, 110, 111, 102], 402), ([102, 111, 114, 97, 108, 108], 8704), ([102, 114, 97, 99, 49, 50], 189), ([102, 114, 97, 99, 49, 52], 188),
  ([102, 114, 97, 99, 51, 52], 190), ([103, 97, 109, 109, 97], 947), ([103, 101], 8805), ([103, 116], 62), ([104, 97, 114, 114], 8596), ([104, 101, 97, 114, 116, 115], 9829),
  ([104, 101, 108, 108, 105, 112], 8230), ([105, 97, 99, 117, 116, 101], 237), ([105, 99, 105, 114, 99], 238), ([105, 101, 120, 99, 108], 161), ([105, 103, 114, 97, 118, 101], 236), ([105, 110, 102, 105, 110], 8734),
  ([105, 110, 116], 8747), ([105, 113, 117, 101, 115, 116], 191), ([105, 115, 105, 110], 8712), ([105, 117, 109, 108], 239), ([108, 97, 109, 98, 100, 97], 955), ([108, 97, 113, 117, 111], 171),
  ([108, 97, 114, 114], 8592), ([108, 100, 113, 117, 111], 8220), ([108, 101], 8804), ([108, 115, 97, 113, 117, 111], 8249), ([108, 115, 113, 117, 111], 8216), ([108, 116], 60),
  ([109, 97, 99, 114], 175), ([109, 100, 97, 115, 104], 8212), ([109, 105, 99, 114, 111], 181), ([109, 105, 100, 100, 111, 116], 183), ([109, 105, 110, 117, 115], 8722), ([109, 117], 956),
  ([110, 97, 98, 108, 97], 8711), ([110, 98, 115, 112], 160), ([110, 100, 97, 115, 104], 8211), ([110, 101], 8800), ([110, 105], 8715), ([110, 111, 116], 172),
  ([110, 116, 105, 108, 100, 101], 241), ([111, 97, 99, 117, 116, 101], 243), ([111, 99, 105, 114, 99], 244), ([111, 101, 108, 105, 103], 339), ([111, 103, 114, 97, 118, 101], 242), ([111, 109, 101, 103, 97], 969),
  ([111, 112, 108, 117, 115], 8853), ([111, 114, 100, 102], 170), ([111, 114, 100, 109], 186), ([111, 115, 108, 97, 115, 104], 248), ([111, 116, 105, 108, 100, 101], 245), ([111, 116, 105, 109, 101, 115], 8855),
  ([111, 117, 109, 108], 246), ([112, 97, 114, 97], 182), ([112, 97, 114, 116], 8706), ([112, 101, 114, 109, 105, 108], 8240), ([112, 101, 114, 112], 8869), ([112, 105], 960),
  ([112, 108, 117, 115, 109, 110], 177), ([112, 111, 117, 110, 100], 163), ([112, 114, 111, 100], 8719), ([113, 117, 111, 116], 34), ([114, 97, 100, 105, 99], 8730), ([114, 97, 113, 117, 111], 187),
  ([114, 97, 114, 114], 8594), ([114, 100, 113, 117, 111], 8221), ([114, 101, 103], 174), ([114, 115, 97, 113, 117, 111], 8250), ([114, 115, 113, 117, 111], 8217), ([115, 98, 113, 117, 111], 8218),
  ([115, 99, 97, 114, 111, 110], 353), ([115, 100, 111, 116], 8901), ([115, 101, 99, 116], 167), ([115, 104, 121], 173), ([115, 105, 103, 109, 97], 963), ([115, 112, 97, 100, 101, 115], 9824),
  ([115, 117, 98], 8834), ([115, 117, 109], 8721), ([115, 117, 112], 8835), ([115, 117, 112, 49], 185), ([115, 117, 112, 50], 178), ([115, 117, 112, 51], 179),
  ([115, 122, 108, 105, 103], 223), ([116, 104, 105, 110, 115, 112], 8201), ([116, 104, 111, 114, 110], 254), ([116, 105, 108, 100, 101], 732), ([116, 105, 109, 101, 115], 215), ([116, 114, 97, 100, 101], 8482),
  ([117, 97, 99, 117, 116, 101], 250), ([117, 97, 114, 114], 8593), ([117, 99, 105, 114, 99], 251), ([117, 103, 114, 97, 118, 101], 249), ([117, 109, 108], 168), ([117, 117, 109, 108], 252),
  ([121, 97, 99, 117, 116, 101], 253), ([121, 101, 110], 165), ([121, 117, 109, 108], 255)]
theorem entL_len : entL.length = 183 := by decide +kernel
end Go.Proofs.YtekifcbokdidlaaGreatDoor.Pl

namespace Go.Proofs.YtekifcbokdidlaaGreatDoor.PA
open Go.RowKit Go.Proofs.YtekifcbokdidlaaGreatDoor.Pl Go.Proofs.YtekifcbokdidlaaGreatDoorW.PrintWords Go.Proofs.YtekifcbokdidlaaGreatDoorW.PrintLast Go.Proofs.YtekifcbokdidlaaGreatDoorW.PrintMore
set_option linter.unusedVariables false

/-- Composite literals, one behind the other. -/
def bldAll (P : Program) : List Oper → Act → Option Act
  | [], a => some a
  | o :: r, a => match o.guard, o.op with
    | none, .build t parts => match P.built t (parts.map fun (i, x) => (i, a.eval x)).toList with
      | some c => bldAll P r (a.put o.dst (.agg c))
      | none => none
    | _, _ => none
theorem wpList_bldAll {P : Program} {ops : Array Oper} {Q : Exit → Act → World → Prop} {w : World} : ∀ (l r : List Oper) (a a' : Act), bldAll P l a = some a' → wpList P ops Q r a' w → wpList P ops Q (l ++ r) a w
  | [], r, a, a', h, hr => by
    obtain rfl := Option.some.inj h
    exact hr
  | o :: l, r, a, a', h, hr => by
    unfold bldAll at h
    split at h
    · rename_i t parts hg ho
      split at h
      · rename_i c hc
        refine wpList_build hg t parts ho (by rw [hc]; rfl) ?_
        rw [hc]
        exact wpList_bldAll l r _ a' h hr
      · cases h
    · cases h
/-- The table's cells. -/
noncomputable def entCells : Array Value := (entL.flatMap fun e => [Value.string (B e.1), Value.int .i32 (e.2 : Int)]).toArray
noncomputable def tabOps : Array Oper := match Tryz.f132.body with
  | some (.seq _ (.seq (.region _ o _) _)) => o
  | _ => #[]
def tabAct (b : Nat) : Act := { tmps := #[Value.pointer (some ⟨b, 0, none⟩)] ++ Array.replicate 184 undef, defers := [] }
theorem tab_built (b : Nat) : (bldAll Tryz.prog (tabOps.toList.take 184) (tabAct b)).map (fun a => (a.eval (.tmp 0), a.eval (.tmp 184), a.defers)) = some (.pointer (some ⟨b, 0, none⟩), .agg entCells, []) := by kernel_rfl
theorem tab_ops : ∃ o : Oper, tabOps.toList.drop 184 = [o] ∧ o.dst = none ∧ o.guard = none ∧ o.op = .store 134 (.tmp 0) (.tmp 184) := ⟨(tabOps.toList.drop 184).headD { dst := none, op := .store 134 (.tmp 0) (.tmp 184), type := 0, pos := "", after := #[], guard := none }, by kernel_rfl, by kernel_rfl, by kernel_rfl, by kernel_rfl⟩
theorem tab_body : Tryz.f132.body = some (.seq (.region 0 #[{ dst := some 0, op := .alloc 134, type := 0, pos := "table.go:10", after := #[], guard := none }] false) (.seq (.region 1 tabOps false) .ret)) := by kernel_rfl
theorem tab_len : entCells.size = 366 := by kernel_rfl
theorem tab_one : entCells.all (·.oneCell') = true := by kernel_rfl
theorem tab_zero : Tryz.zeroCells134.size = 366 := by kernel_rfl
theorem tab_info : (Tryz.prog.info? 134).map (·.size) = some 366 := by kernel_rfl
set_option maxRecDepth 100000 in
set_option maxHeartbeats 4000000 in
theorem table_walk (w : World) : Calls Tryz.prog 132 #[] w fun e w' => e = .returned (.agg entCells) ∧ Below w.heap.size w w' := by
  refine calls_of_wp Tryz.func132 tab_body ?_
  have htm : (#[] : Array Value) ++ Array.replicate ((Tryz.f132).ntmps - (#[] : Array Value).size) undef = Array.replicate 185 undef := by kernel_rfl
  rw [htm]
  have e1 : ∀ b : Nat, ({ tmps := (Array.replicate 185 undef).setIfInBounds 0 (.pointer (some ⟨b, 0, none⟩)), defers := [] } : Act) = tabAct b := fun b => by kernel_rfl
  obtain ⟨o, ho, hod, hog, hoo⟩ := tab_ops
  refine wp_seq (wp_region_list (wpList_plain rfl fun K hK => ?_))
  generalize hA : (Array.replicate 185 undef : Array Value) = A at e1 ⊢
  go_simp
  refine hK _ _ (wpList_nil ?_)
  clear hK K
  refine wp_seq (wp_region_list ?_)
  have hsplit : tabOps.toList = tabOps.toList.take 184 ++ [o] := by rw [← ho, List.take_append_drop]
  have hb := tab_built w.heap.size
  cases hq : bldAll Tryz.prog (tabOps.toList.take 184) (tabAct w.heap.size) with
  | none => rw [hq] at hb; cases hb
  | some a' =>
    rw [hq] at hb
    simp only [Option.map_some, Option.some.injEq, Prod.mk.injEq] at hb
    obtain ⟨h1, h2, h3⟩ := hb
    rw [hsplit]
    refine wpList_bldAll _ _ _ _ hq ?_
    refine wpList_store_row hog _ _ _ hoo w.heap.size entCells h1 h2 134 Tryz.zeroCells134 (World.alloc_heap_new w _) (tab_info.trans (congrArg some tab_len.symm)) (tab_zero.trans tab_len.symm) tab_one ?_
    refine wpList_nil (wp_ret ?_)
    rw [hod]
    have hg := setRow_heap (w.alloc (.cells Tryz.zeroCells134 134)) w.heap.size Tryz.zeroCells134 entCells 134 (0, 0) (World.alloc_heap_new w _)
    refine bodyPost_ret (v := .agg entCells) (results_cell_row (fn := Tryz.f132) rfl _ _ w.heap.size 134 entCells (0, 0) _ h1 hg Tryz.underlying134 rfl (tab_info.trans (congrArg some tab_len.symm))) h3 ⟨rfl, ?_⟩
    exact below_setRow ((Below.refl _ w).alloc (Nat.le_refl _) _) (Nat.le_refl _) _
end Go.Proofs.YtekifcbokdidlaaGreatDoor.PA

namespace Go.Proofs.YtekifcbokdidlaaGreatDoor.PA
open Go.RowKit Go.Proofs.YtekifcbokdidlaaGreatDoor.Pl Go.Proofs.YtekifcbokdidlaaGreatDoorW.PrintWords Go.Proofs.YtekifcbokdidlaaGreatDoorW.PrintLast Go.Proofs.YtekifcbokdidlaaGreatDoorW.PrintMore
set_option linter.unusedVariables false

/-- Texts compared. -/
def cmpT (x y : List UInt8) : Int := if Op.bytesLess x y = true then -1 else if x = y then 0 else 1
theorem isNaN_any (x : ByteArray) (w : World) : Calls Tryz.prog 142 #[.string x] w fun e w' => e = .returned (.bool false) ∧ w = w' := by
  go_enter Tryz.func142, Tryz.ntmps142
  go_wp2
  go_ret
  exact ⟨by simp, rfl⟩
theorem compare_any (x y : ByteArray) (w : World) : Calls Tryz.prog 135 #[.string x, .string y] w fun e w' => e = .returned (.int .i64 (cmpT x.toList y.toList)) ∧ w = w' := by
  have hlg : cmpT x.toList y.toList = if Op.bytesLess x.toList y.toList = true then -1 else if x.toList = y.toList then 0 else 1 := rfl
  cases h1 : Op.bytesLess x.toList y.toList with
  | true =>
    rw [h1, if_pos rfl] at hlg
    have HL := Lib.hid hlg
    clear hlg
    go_enter Tryz.func135, Tryz.ntmps135
    go_wp2_with (first | (go_at_call 142; refine (isNaN_any _ _).mono ?_; rintro e w' ⟨rfl, rfl⟩))
    go_ret
    exact ⟨congrArg (fun z => Ending.returned (.int .i64 z)) HL.out.symm, rfl⟩
  | false =>
    rw [h1, if_neg (by decide)] at hlg
    by_cases h2 : x.toList = y.toList
    · rw [if_pos h2] at hlg
      have h3 : (x.toList == y.toList) = true := beq_iff_eq.2 h2
      have HL := Lib.hid hlg
      clear hlg h2
      go_enter Tryz.func135, Tryz.ntmps135
      go_wp2_with (first | (go_at_call 142; refine (isNaN_any _ _).mono ?_; rintro e w' ⟨rfl, rfl⟩))
      go_ret
      exact ⟨congrArg (fun z => Ending.returned (.int .i64 z)) HL.out.symm, rfl⟩
    · rw [if_neg h2] at hlg
      have h3 : (x.toList == y.toList) = false := beq_eq_false_iff_ne.2 h2
      have HL := Lib.hid hlg
      clear hlg h2
      go_enter Tryz.func135, Tryz.ntmps135
      go_wp2_with (first | (go_at_call 142; refine (isNaN_any _ _).mono ?_; rintro e w' ⟨rfl, rfl⟩))
      go_ret
      exact ⟨congrArg (fun z => Ending.returned (.int .i64 z)) HL.out.symm, rfl⟩
theorem named1_any (x y : ByteArray) (n : Int) (w : World) : Calls Tryz.prog 134 #[.agg #[.string x, .int .i32 n], .string y] w fun e w' => e = .returned (.int .i64 (cmpT x.toList y.toList)) ∧ Below w.heap.size w w' := by
  have HC := Lib.hid (compare_any x y)
  go_enter Tryz.func134, Tryz.ntmps134
  go_wp2_with (first | (go_at_call 135; refine (HC.out _).mono ?_; rintro e w' ⟨rfl, rfl⟩))
  go_ret
  exact ⟨rfl, (Below.refl _ _).alloc (Nat.le_refl _) _⟩
/-- The name at a place. -/
def enm (k : Nat) : List UInt8 := (entL.getD k ([], 0)).1
def enn (k : Nat) : Int := (((entL.getD k ([], 0)).2 : Nat) : Int)
/-- The binary search: rounds, from, to. -/
def bsr (t : List UInt8) : Nat → Nat → Nat → Nat
  | 0, i, _ => i
  | f + 1, i, j => if i < j then if cmpT (enm ((i + j) / 2)) t < 0 then bsr t f ((i + j) / 2 + 1) j else bsr t f i ((i + j) / 2) else i
theorem bsr_end (t : List UInt8) (f i j : Nat) (h : ¬ i < j) : bsr t f i j = i := by
  cases f with
  | zero => rfl
  | succ f => rw [bsr, if_neg h]
/-- The table lies in a block. -/
def EntAt (b : Nat) (w : World) : Prop := ∀ k, k < 183 → w.cell? ⟨b, k * 2, none⟩ = some (.string (B (enm k))) ∧ w.cell? ⟨b, k * 2 + 1, none⟩ = some (.int .i32 (enn k))
theorem EntAt.go {b : Nat} {w w' : World} (h : EntAt b w) (hb : Below w.heap.size w w') (hlt : b < w.heap.size) : EntAt b w' := fun k hk =>
  ⟨(hb.cell (p := ⟨b, k * 2, none⟩) hlt).trans (h k hk).1, (hb.cell (p := ⟨b, k * 2 + 1, none⟩) hlt).trans (h k hk).2⟩
set_option maxHeartbeats 4000000 in
set_option maxRecDepth 100000 in
theorem bsearch_any (b : Nat) (t : List UInt8) (w : World) (hE : EntAt b w) (hb : b < w.heap.size) :
    Calls Tryz.prog 133 #[.slice (some ⟨b, 0, none⟩) 183 183, .string (B t), .func (.func 134) #[] #[]] w fun e w' =>
      e = .returned (.tuple #[.int .i64 ((bsr t 183 0 183 : Nat) : Int), .bool (decide (bsr t 183 0 183 < 183 ∧ enm (bsr t 183 0 183) = t))]) ∧ Below w.heap.size w w' := by
  obtain ⟨R, hR⟩ : ∃ R, bsr t 183 0 183 = R := ⟨_, rfl⟩
  rw [hR]
  have HR := Lib.hid hR
  have HE := Lib.hid hE
  clear hR hE
  go_enter Tryz.func133, Tryz.ntmps133
  go_wp2
  go_loopw [9, 10] (fun vi vj wr => ∃ (f i j : Nat), vi = .int .i64 i ∧ vj = .int .i64 j ∧ i ≤ j ∧ j ≤ 183 ∧ Hid (j - i ≤ f ∧ bsr t f i j = R) ∧ Hid (Below w.heap.size w wr))
    (fun vi vj _ => (intOf vj).toNat - (intOf vi).toNat)
  case atStart => exact ⟨183, 0, 183, rfl, rfl, by omega, by omega, ⟨by omega, HR.out⟩, Below.refl _ _⟩
  case round =>
    obtain ⟨f, i, j, rfl, rfl, hij, hj, HF, HB⟩ := hrel
    by_cases hlt : i < j
    · obtain ⟨hf, hr⟩ := HF.out
      clear HF
      have hEk := (HE.out.go HB.out hb) ((i + j) / 2) (by omega)
      have hsz := HB.out.size
      go_wp2_with fail
      refine (named1_any _ _ _ wr).mono ?_
      rintro e w2 ⟨rfl, hb2⟩
      rw [B_toList, B_toList]
      have HB2 := Lib.hid (HB.out.trans (hb2.mono hsz))
      obtain ⟨f, rfl⟩ : ∃ g, f = g + 1 := ⟨f - 1, by omega⟩
      rw [bsr, if_pos hlt] at hr
      obtain ⟨c, hc⟩ : ∃ c, cmpT (enm ((i + j) / 2)) t = c := ⟨_, rfl⟩
      rw [hc] at hr ⊢
      clear hEk hsz hb2 HB HE hc
      by_cases hc0 : c < 0
      · rw [if_pos hc0] at hr
        have HR2 := Lib.hid hr
        clear hr
        go_wp2
        go_roundw
        case rel => exact ⟨f, (i + j) / 2 + 1, j, by first | rfl | (congr 1; omega), rfl, by omega, hj, ⟨by omega, HR2.out⟩, HB2⟩
        case measure => simp [intOf]; omega
      · rw [if_neg hc0] at hr
        have HR2 := Lib.hid hr
        clear hr
        have hc1 : 0 ≤ c := by omega
        go_wp2
        go_roundw
        case rel => exact ⟨f, i, (i + j) / 2, rfl, by first | rfl | (congr 1; omega), by omega, by omega, ⟨by omega, HR2.out⟩, HB2⟩
        case measure => simp [intOf]; omega
    · obtain ⟨hf, hr⟩ := HF.out
      rw [bsr_end t f i j hlt] at hr
      obtain rfl : i = R := hr
      have hsz := HB.out.size
      clear HF HR
      by_cases h183 : i < 183
      · have hEk := (HE.out.go HB.out hb) i h183
        have hcz : cmpT (enm i) t = 0 ↔ enm i = t := by
          unfold cmpT
          constructor
          · intro h
            split at h
            · cases h
            · split at h
              · assumption
              · cases h
          · intro h
            rw [h]
            have hn : ∀ l : List UInt8, Op.bytesLess l l = false := by
              intro l
              induction l with
              | nil => rfl
              | cons x l ih =>
                have hx : ¬ x < x := by
                  intro h
                  exact absurd (UInt8.lt_iff_toNat_lt.1 h) (Nat.lt_irrefl _)
                simp [Op.bytesLess, ih, hx]
            rw [hn, if_neg (by decide), if_pos rfl]
        have hdec : decide (i < 183 ∧ enm i = t) = decide (cmpT (enm i) t = 0) := by rw [decide_eq_decide, hcz]; exact ⟨fun h => h.2, fun h => ⟨h183, h⟩⟩
        have HDEC := Lib.hid hdec
        clear hdec hcz
        have hd1 : decide (i < 183) = true := decide_eq_true h183
        go_wp2_with fail
        refine (named1_any _ _ _ wr).mono ?_
        rintro e w2 ⟨rfl, hb2⟩
        rw [B_toList, B_toList]
        obtain ⟨c, hc⟩ : ∃ c, cmpT (enm i) t = c := ⟨_, rfl⟩
        rw [hc] at HDEC ⊢
        have HB2 := Lib.hid (HB.out.trans (hb2.mono hsz))
        clear hEk hsz hb2 HB HE hc hd1
        cases hcd : decide (c = 0) with
        | true =>
          rw [hcd] at HDEC
          have hceq : (c == 0) = true := beq_iff_eq.2 (of_decide_eq_true hcd)
          clear hcd
          go_wp2
          go_ret2
          exact ⟨congrArg (fun z => Ending.returned (.tuple #[.int .i64 ((i : Nat) : Int), .bool z])) HDEC.out.symm, HB2.out⟩
        | false =>
          rw [hcd] at HDEC
          have hceq : (c == 0) = false := beq_eq_false_iff_ne.2 (of_decide_eq_false hcd)
          clear hcd
          go_wp2
          go_ret2
          exact ⟨congrArg (fun z => Ending.returned (.tuple #[.int .i64 ((i : Nat) : Int), .bool z])) HDEC.out.symm, HB2.out⟩
      · have hdec : decide (i < 183 ∧ enm i = t) = false := decide_eq_false (fun h => h183 h.1)
        have HDEC := Lib.hid hdec
        have hge : 183 ≤ i := by omega
        clear hdec HE
        have hd1 : decide (i < 183) = false := decide_eq_false h183
        go_wp2
        go_ret2
        exact ⟨by first | exact congrArg (fun z => Ending.returned (.tuple #[.int .i64 ((i : Nat) : Int), .bool z])) HDEC.out.symm | rfl | simp, HB.out⟩
end Go.Proofs.YtekifcbokdidlaaGreatDoor.PA

namespace Go.Proofs.YtekifcbokdidlaaGreatDoor.PA
open Go.RowKit Go.Proofs.YtekifcbokdidlaaGreatDoor.Pl Go.Proofs.YtekifcbokdidlaaGreatDoorW.PrintWords Go.Proofs.YtekifcbokdidlaaGreatDoorW.PrintLast Go.Proofs.YtekifcbokdidlaaGreatDoorW.PrintMore
set_option linter.unusedVariables false

theorem flat2 {α β : Type} (f g : α → β) : ∀ (l : List α) (k : Nat), (l.flatMap fun e => [f e, g e])[k * 2]? = (l[k]?).map f ∧ (l.flatMap fun e => [f e, g e])[k * 2 + 1]? = (l[k]?).map g
  | [], k => by simp
  | x :: l, 0 => by simp
  | x :: l, k + 1 => by
    have ih := flat2 f g l k
    rw [show (k + 1) * 2 = k * 2 + 2 by omega, show k * 2 + 2 + 1 = (k * 2 + 1) + 2 by omega]
    simp only [List.flatMap_cons, List.cons_append, List.nil_append, List.getElem?_cons_succ]
    exact ih
theorem ent_at {b : Nat} {w : World} {t : TypeId} {fr : Nat × Nat} (h : w.heap[b]? = some (.cells entCells t fr)) : EntAt b w := by
  intro k hk
  have hl : k < entL.length := by rw [entL_len]; exact hk
  have h2 := flat2 (fun e : List UInt8 × Nat => Value.string (B e.1)) (fun e => Value.int .i32 (e.2 : Int)) entL k
  rw [List.getElem?_eq_getElem hl] at h2
  have e1 : enm k = entL[k].1 := by unfold enm; rw [List.getD_eq_getElem?_getD, List.getElem?_eq_getElem hl]; rfl
  have e2 : enn k = ((entL[k].2 : Nat) : Int) := by unfold enn; rw [List.getD_eq_getElem?_getD, List.getElem?_eq_getElem hl]; rfl
  rw [e1, e2]
  constructor
  · rw [cell_of_row w b _ entCells t fr h]
    unfold entCells
    rw [List.getElem?_toArray]
    exact h2.1
  · rw [cell_of_row w b _ entCells t fr h]
    unfold entCells
    rw [List.getElem?_toArray]
    exact h2.2
theorem ret_sb {a a' : ByteArray} {b b' : Bool} (h1 : a' = a) (h2 : b' = b) : Ending.returned (.tuple #[.string a, .bool b]) = Ending.returned (.tuple #[.string a', .bool b']) := by rw [h1, h2]
/-- The character of a name. -/
def nmd (t : List UInt8) : ByteArray × Bool := if bsr t 183 0 183 < 183 ∧ enm (bsr t 183 0 183) = t then (Go.Utf8.encode (enn (bsr t 183 0 183)), true) else (⟨#[]⟩, false)
set_option maxHeartbeats 4000000 in
set_option maxRecDepth 100000 in
theorem named_walk (t : List UInt8) (w : World) : Calls Tryz.prog 118 #[.string (B t)] w fun e w' => e = .returned (.tuple #[.string (nmd t).1, .bool (nmd t).2]) ∧ Below w.heap.size w w' := by
  have HT := Lib.hid (table_walk w)
  obtain ⟨⟨q1, q2⟩, hq⟩ : ∃ q, nmd t = q := ⟨_, rfl⟩
  rw [hq]
  have HQ := Lib.hid hq
  clear hq
  go_enter Tryz.func118, Tryz.ntmps118
  go_wp2_with fail
  refine HT.out.mono ?_
  rintro e w1 ⟨rfl, hb1⟩
  have hg := setRow_heap (w1.alloc (.cells Tryz.zeroCells134 134)) w1.heap.size Tryz.zeroCells134 entCells 134 (0, 0) (World.alloc_heap_new w1 _)
  have hB := hb1.trans (below_setRow ((Below.refl _ w1).alloc (Nat.le_refl _) (.cells Tryz.zeroCells134 134)) (Nat.le_refl _) entCells |>.mono hb1.size)
  have hz : ((w1.alloc (.cells Tryz.zeroCells134 134)).setRow w1.heap.size entCells).heap.size = w1.heap.size + 1 := by rw [setRow_size, World.size_alloc]
  go_wp2_with (refine wpList_store_row rfl _ _ _ rfl w1.heap.size entCells rfl rfl 134 Tryz.zeroCells134 (World.alloc_heap_new w1 _) (tab_info.trans (congrArg some tab_len.symm)) (tab_zero.trans tab_len.symm) tab_one ?_; generalize ((w1.alloc (.cells Tryz.zeroCells134 134)).setRow w1.heap.size entCells) = W2 at hg hB hz ⊢)
  refine (bsearch_any w1.heap.size t W2 (ent_at hg) (by omega)).mono ?_
  rintro e w3 ⟨rfl, hb3⟩
  have hE3 := (ent_at hg).go hb3 (by omega)
  have HB := Lib.hid (hB.trans (hb3.mono hB.size))
  have hnm : (q1, q2) = if bsr t 183 0 183 < 183 ∧ enm (bsr t 183 0 183) = t then (Go.Utf8.encode (enn (bsr t 183 0 183)), true) else (⟨#[]⟩, false) := HQ.out.symm
  clear hg hB hb3 hz hb1
  generalize bsr t 183 0 183 = R at hnm ⊢
  by_cases hc : R < 183 ∧ enm R = t
  · rw [if_pos hc] at hnm
    rw [decide_eq_true hc]
    have HN := Lib.hid (Prod.mk.inj hnm)
    have hEk := hE3 R hc.1
    have h183 := hc.1
    have hd1 : decide (R < 183) = true := decide_eq_true hc.1
    clear hnm hc hE3
    go_wp2
    go_ret2
    exact ⟨ret_sb HN.out.1 HN.out.2, HB.out⟩
  · rw [if_neg hc] at hnm
    rw [decide_eq_false hc]
    have HN := Lib.hid (Prod.mk.inj hnm)
    clear hnm hc hE3
    go_wp2
    go_ret2
    exact ⟨ret_sb HN.out.1 HN.out.2, HB.out⟩
end Go.Proofs.YtekifcbokdidlaaGreatDoor.PA

namespace Go.Proofs.YtekifcbokdidlaaGreatDoor.PA
open Go.RowKit Go.Proofs.YtekifcbokdidlaaGreatDoor.Pl Go.Proofs.YtekifcbokdidlaaGreatDoorW.PrintWords Go.Proofs.YtekifcbokdidlaaGreatDoorW.PrintLast Go.Proofs.YtekifcbokdidlaaGreatDoorW.PrintMore
set_option linter.unusedVariables false

/-- A digit; a digit of sixteen. -/
def dg (x : UInt8) : Bool := decide (48 ≤ x.toNat ∧ x.toNat ≤ 57)
def hxd (x : UInt8) : Bool := decide (dOk 16 x)
theorem digit_any (x : UInt8) (w : World) : Calls Tryz.prog 121 #[.int .u8 (x.toNat : Int)] w fun e w' => e = .returned (.bool (dg x)) ∧ w = w' := by
  by_cases h1 : 48 ≤ x.toNat
  · by_cases h2 : x.toNat ≤ 57
    · have HD := Lib.hid (show dg x = true from decide_eq_true ⟨h1, h2⟩)
      have q1 : decide ((x.toNat : Int) ≤ 57) = true := decide_eq_true (by omega)
      go_enter Tryz.func121, Tryz.ntmps121
      go_wp2
      go_ret
      exact ⟨congrArg (fun z => Ending.returned (.bool z)) HD.out.symm, rfl⟩
    · have HD := Lib.hid (show dg x = false from decide_eq_false (fun h => h2 h.2))
      have h3 : 57 < x.toNat := by omega
      have q1 : decide ((x.toNat : Int) ≤ 57) = false := decide_eq_false (by omega)
      go_enter Tryz.func121, Tryz.ntmps121
      go_wp2
      go_ret
      exact ⟨congrArg (fun z => Ending.returned (.bool z)) HD.out.symm, rfl⟩
  · have HD := Lib.hid (show dg x = false from decide_eq_false (fun h => h1 h.1))
    have h3 : x.toNat < 48 := by omega
    go_enter Tryz.func121, Tryz.ntmps121
    go_wp2
    go_ret
    exact ⟨congrArg (fun z => Ending.returned (.bool z)) HD.out.symm, rfl⟩
theorem hexd_any (x : UInt8) (w : World) : Calls Tryz.prog 120 #[.int .u8 (x.toNat : Int)] w fun e w' => e = .returned (.bool (hxd x)) ∧ w = w' := by
  have hdg := digit_any x
  have h32 := or32 x
  cases hd : dg x with
  | true =>
    have HD := Lib.hid (show hxd x = true from decide_eq_true (.inl (of_decide_eq_true hd)))
    rw [hd] at hdg
    have HG := Lib.hid hdg
    clear hdg hd
    go_enter Tryz.func120, Tryz.ntmps120
    go_wp2_with (first | (go_at_call 121; refine (HG.out _).mono ?_; rintro e w' ⟨rfl, rfl⟩))
    go_ret
    exact ⟨congrArg (fun z => Ending.returned (.bool z)) HD.out.symm, rfl⟩
  | false =>
    have hnd := of_decide_eq_false hd
    rw [hd] at hdg
    have HG := Lib.hid hdg
    have hhx : hxd x = decide (97 ≤ (x.toNat ||| 32) ∧ (x.toNat ||| 32) ≤ 102) := by
      unfold hxd
      rw [decide_eq_decide]
      exact ⟨fun h => h.elim (fun h => absurd h hnd) (fun h => h.2), fun h => .inr ⟨rfl, h⟩⟩
    clear hdg hd hnd
    generalize (x.toNat ||| 32) = m at *
    by_cases h1 : 97 ≤ m
    · by_cases h2 : m ≤ 102
      · rw [decide_eq_true ⟨h1, h2⟩] at hhx
        have HD := Lib.hid hhx
        have q1 : decide ((m : Int) ≤ 102) = true := decide_eq_true (by omega)
        clear hhx
        go_enter Tryz.func120, Tryz.ntmps120
        go_wp2_with (first | (go_at_call 121; refine (HG.out _).mono ?_; rintro e w' ⟨rfl, rfl⟩))
        go_ret
        exact ⟨congrArg (fun z => Ending.returned (.bool z)) HD.out.symm, rfl⟩
      · rw [decide_eq_false (fun h => h2 h.2)] at hhx
        have HD := Lib.hid hhx
        have h3 : 102 < m := by omega
        have q1 : decide ((m : Int) ≤ 102) = false := decide_eq_false (by omega)
        clear hhx h2
        go_enter Tryz.func120, Tryz.ntmps120
        go_wp2_with (first | (go_at_call 121; refine (HG.out _).mono ?_; rintro e w' ⟨rfl, rfl⟩))
        go_ret
        exact ⟨congrArg (fun z => Ending.returned (.bool z)) HD.out.symm, rfl⟩
    · rw [decide_eq_false (fun h => h1 h.1)] at hhx
      have HD := Lib.hid hhx
      have h3 : m < 97 := by omega
      clear hhx h1
      go_enter Tryz.func120, Tryz.ntmps120
      go_wp2_with (first | (go_at_call 121; refine (HG.out _).mono ?_; rintro e w' ⟨rfl, rfl⟩))
      go_ret
      exact ⟨congrArg (fun z => Ending.returned (.bool z)) HD.out.symm, rfl⟩
/-- The character of a number in digits. -/
def fixr (n : Nat) : Int := if n = 0 ∨ Lib.validRune (n : Int) = false then 65533 else (n : Int)
def chr (b most : Nat) (ok : UInt8 → Bool) (s : List UInt8) : ByteArray × Bool := if s = [] ∨ most < s.length ∨ s.all ok = false then (⟨#[]⟩, false) else (Go.Utf8.encode (fixr (num b s)), true)
set_option maxHeartbeats 4000000 in
set_option maxRecDepth 100000 in
theorem all10 (s : List UInt8) (hs : s.length ≤ 1099511627776) (w : World) : Calls Tryz.prog 136 #[.string (B s), .func (.func 121) #[] #[]] w fun e w' => e = .returned (.bool (s.all dg)) ∧ w = w' := by
  have hsz : (B s).size = s.length := B_size s
  go_enter Tryz.func136, Tryz.ntmps136
  go_wp2
  go_loop [8] (fun vi => ∃ k : Nat, vi = .int .i64 k ∧ k ≤ s.length ∧ Hid ((s.take k).all dg = true))
    (fun vi => s.length - (intOf vi).toNat)
  case atStart => exact ⟨0, rfl, by omega, by rw [List.take_zero]; rfl⟩
  case round =>
    obtain ⟨k, rfl, hk, HA⟩ := hrel
    by_cases hkn : k < s.length
    · have hks : k < (B s).size := by omega
      have hi : (B s)[k]'hks = s[k] := List.getElem_toArray hkn
      have hall : (s.take (k + 1)).all dg = dg s[k] := by rw [← List.take_append_getElem hkn, List.all_append, HA.out, Bool.true_and, List.all_cons, List.all_nil, Bool.and_true]; rfl
      cases hok : dg s[k] with
      | true =>
        have HN := Lib.hid (show (s.take (k + 1)).all dg = true by rw [hall, hok])
        have HP := Lib.hid (show ∀ w, Calls Tryz.prog 121 #[.int .u8 (((B s)[k]'hks).toNat : Int)] w fun e w' => e = .returned (.bool true) ∧ w = w' by rw [hi]; intro w; have := digit_any s[k] w; rw [hok] at this; exact this)
        clear hi hall hok HA
        go_wp2_with (first | (go_at_call 121; refine (HP.out _).mono ?_; rintro e w' ⟨rfl, rfl⟩))
        go_round
        case rel => exact ⟨k + 1, by go_num, by omega, HN⟩
        case measure => simp [intOf]; omega
      | false =>
        have HN := Lib.hid (show s.all dg = false by
          rw [← Bool.not_eq_true]
          intro h
          have := List.all_eq_true.1 h _ (List.getElem_mem hkn)
          exact absurd (this.symm.trans hok) (by decide))
        have HP := Lib.hid (show ∀ w, Calls Tryz.prog 121 #[.int .u8 (((B s)[k]'hks).toNat : Int)] w fun e w' => e = .returned (.bool false) ∧ w = w' by rw [hi]; intro w; have := digit_any s[k] w; rw [hok] at this; exact this)
        clear hi hall hok HA
        go_wp2_with (first | (go_at_call 121; refine (HP.out _).mono ?_; rintro e w' ⟨rfl, rfl⟩))
        go_ret
        exact ⟨congrArg (fun z => Ending.returned (.bool z)) HN.out.symm, rfl⟩
    · have HN := Lib.hid (show s.all dg = true by rw [← HA.out, List.take_of_length_le (by omega)])
      have hkb : decide (k < (B s).size) = false := decide_eq_false (by omega)
      clear HA
      go_wp2
      go_ret
      exact ⟨congrArg (fun z => Ending.returned (.bool z)) HN.out.symm, rfl⟩
set_option maxHeartbeats 4000000 in
set_option maxRecDepth 100000 in
theorem chr10 (s : List UInt8) (hs : s.length ≤ 1099511627776) (w : World) : Calls Tryz.prog 119 #[.string (B s), .int .i64 10, .int .i64 7, .func (.func 121) #[] #[]] w fun e w' => e = .returned (.tuple #[.string (chr 10 7 dg s).1, .bool (chr 10 7 dg s).2]) ∧ Below w.heap.size w w' := by
  have hsz : (B s).size = s.length := B_size s
  obtain ⟨⟨q1, q2⟩, hq⟩ : ∃ q, chr 10 7 dg s = q := ⟨_, rfl⟩
  rw [hq]
  unfold chr at hq
  by_cases h0 : s = []
  · rw [if_pos (.inl h0)] at hq
    have HQ := Lib.hid (Prod.mk.inj hq)
    subst h0
    have hemp : (B []).toList = [] := B_toList []
    have hem2 : (B []).toList.isEmpty = true := by rw [hemp]; rfl
    clear hq
    go_enter Tryz.func119, Tryz.ntmps119
    go_wp2
    go_ret2
    exact ⟨ret_sb HQ.out.1.symm HQ.out.2.symm, Below.refl _ _⟩
  · have hemp : (B s).toList.isEmpty = false := by
      rw [B_toList]
      cases s with
      | nil => exact absurd rfl h0
      | cons _ _ => rfl
    by_cases h1 : 7 < s.length
    · rw [if_pos (.inr (.inl h1))] at hq
      have HQ := Lib.hid (Prod.mk.inj hq)
      have h2 : 7 < (B s).size := by omega
      clear hq h0
      go_enter Tryz.func119, Tryz.ntmps119
      go_wp2
      go_ret2
      exact ⟨ret_sb HQ.out.1.symm HQ.out.2.symm, Below.refl _ _⟩
    · have h2 : (B s).size ≤ 7 := by omega
      have hall := all10 s hs
      cases ha : s.all dg with
      | false =>
        rw [if_pos (.inr (.inr ha))] at hq
        have HQ := Lib.hid (Prod.mk.inj hq)
        rw [ha] at hall
        have HA := Lib.hid hall
        clear hq hall ha h0 h1
        go_enter Tryz.func119, Tryz.ntmps119
        go_wp2_with (first | (go_at_call 136; refine (HA.out _).mono ?_; rintro e w' ⟨rfl, rfl⟩))
        go_ret2
        exact ⟨ret_sb HQ.out.1.symm HQ.out.2.symm, Below.refl _ _⟩
      | true =>
        rw [if_neg (by rintro (h | h | h); exact h0 h; exact h1 h; rw [ha] at h; cases h)] at hq
        rw [ha] at hall
        have HA := Lib.hid hall
        have hdk : ∀ x ∈ s, dOk 10 x := fun x hx => (show dg x = true → dOk 10 x from fun h => .inl (of_decide_eq_true h)) (List.all_eq_true.1 ha x hx)
        have HP := Lib.hid (parseInt10 s h0 (by omega) hdk)
        have hlt := num_lt 10 (by decide) s.length s rfl hdk
        have h16 : (16 : Nat) ^ s.length ≤ 16 ^ 7 := Nat.pow_le_pow_right (by decide) (by omega)
        obtain ⟨nn, hnn⟩ : ∃ nn : Nat, num 10 s = nn := ⟨_, rfl⟩
        rw [hnn] at HP hq hlt
        have n1 : nn ≤ 268435455 := by omega
        clear hall ha h0 h1 hdk hlt h16 hnn
        by_cases hz : nn = 0
        · rw [show fixr nn = 65533 from if_pos (.inl hz)] at hq
          have HQ := Lib.hid (Prod.mk.inj hq)
          clear hq
          subst hz
          go_enter Tryz.func119, Tryz.ntmps119
          go_wp2_with (first | (go_at_call 136; refine (HA.out _).mono ?_; rintro e w' ⟨rfl, rfl⟩) | (go_at_call 137; refine (HP.out _).mono ?_; rintro e w' ⟨rfl, hb⟩; have HB := Lib.hid hb; clear hb))
          go_ret2
          exact ⟨ret_sb HQ.out.1.symm HQ.out.2.symm, HB.out⟩
        · have hzb : ((nn : Int) == 0) = false := beq_eq_false_iff_ne.2 (by omega)
          have n0 : 0 < nn := by omega
          cases hv : Lib.validRune (nn : Int) with
          | true =>
            rw [show fixr nn = (nn : Int) from if_neg (by rintro (h | h); exact hz h; rw [hv] at h; cases h)] at hq
            have HQ := Lib.hid (Prod.mk.inj hq)
            have HV := Lib.hid (show ∀ w, Calls Tryz.prog 138 #[.int .i32 (nn : Int)] w fun e w' => e = .returned (.bool true) ∧ w' = w from fun w => by have := Tryz.utf8_ValidRune (nn : Int) w; rw [hv] at this; exact this)
            clear hq hv hz
            go_enter Tryz.func119, Tryz.ntmps119
            go_wp2_with (first | (go_at_call 136; refine (HA.out _).mono ?_; rintro e w' ⟨rfl, rfl⟩) | (go_at_call 137; refine (HP.out _).mono ?_; rintro e w' ⟨rfl, hb⟩; have HB := Lib.hid hb; clear hb) | (go_at_call 138; refine (HV.out _).mono ?_; rintro e w' ⟨rfl, rfl⟩))
            go_ret2
            exact ⟨ret_sb HQ.out.1.symm HQ.out.2.symm, HB.out⟩
          | false =>
            rw [show fixr nn = 65533 from if_pos (.inr hv)] at hq
            have HQ := Lib.hid (Prod.mk.inj hq)
            have HV := Lib.hid (show ∀ w, Calls Tryz.prog 138 #[.int .i32 (nn : Int)] w fun e w' => e = .returned (.bool false) ∧ w' = w from fun w => by have := Tryz.utf8_ValidRune (nn : Int) w; rw [hv] at this; exact this)
            clear hq hv hz
            go_enter Tryz.func119, Tryz.ntmps119
            go_wp2_with (first | (go_at_call 136; refine (HA.out _).mono ?_; rintro e w' ⟨rfl, rfl⟩) | (go_at_call 137; refine (HP.out _).mono ?_; rintro e w' ⟨rfl, hb⟩; have HB := Lib.hid hb; clear hb) | (go_at_call 138; refine (HV.out _).mono ?_; rintro e w' ⟨rfl, rfl⟩))
            go_ret2
            exact ⟨ret_sb HQ.out.1.symm HQ.out.2.symm, HB.out⟩
set_option maxHeartbeats 4000000 in
set_option maxRecDepth 100000 in
theorem all16 (s : List UInt8) (hs : s.length ≤ 1099511627776) (w : World) : Calls Tryz.prog 136 #[.string (B s), .func (.func 120) #[] #[]] w fun e w' => e = .returned (.bool (s.all hxd)) ∧ w = w' := by
  have hsz : (B s).size = s.length := B_size s
  go_enter Tryz.func136, Tryz.ntmps136
  go_wp2
  go_loop [8] (fun vi => ∃ k : Nat, vi = .int .i64 k ∧ k ≤ s.length ∧ Hid ((s.take k).all hxd = true))
    (fun vi => s.length - (intOf vi).toNat)
  case atStart => exact ⟨0, rfl, by omega, by rw [List.take_zero]; rfl⟩
  case round =>
    obtain ⟨k, rfl, hk, HA⟩ := hrel
    by_cases hkn : k < s.length
    · have hks : k < (B s).size := by omega
      have hi : (B s)[k]'hks = s[k] := List.getElem_toArray hkn
      have hall : (s.take (k + 1)).all hxd = hxd s[k] := by rw [← List.take_append_getElem hkn, List.all_append, HA.out, Bool.true_and, List.all_cons, List.all_nil, Bool.and_true]; rfl
      cases hok : hxd s[k] with
      | true =>
        have HN := Lib.hid (show (s.take (k + 1)).all hxd = true by rw [hall, hok])
        have HP := Lib.hid (show ∀ w, Calls Tryz.prog 120 #[.int .u8 (((B s)[k]'hks).toNat : Int)] w fun e w' => e = .returned (.bool true) ∧ w = w' by rw [hi]; intro w; have := hexd_any s[k] w; rw [hok] at this; exact this)
        clear hi hall hok HA
        go_wp2_with (first | (go_at_call 120; refine (HP.out _).mono ?_; rintro e w' ⟨rfl, rfl⟩))
        go_round
        case rel => exact ⟨k + 1, by go_num, by omega, HN⟩
        case measure => simp [intOf]; omega
      | false =>
        have HN := Lib.hid (show s.all hxd = false by
          rw [← Bool.not_eq_true]
          intro h
          have := List.all_eq_true.1 h _ (List.getElem_mem hkn)
          exact absurd (this.symm.trans hok) (by decide))
        have HP := Lib.hid (show ∀ w, Calls Tryz.prog 120 #[.int .u8 (((B s)[k]'hks).toNat : Int)] w fun e w' => e = .returned (.bool false) ∧ w = w' by rw [hi]; intro w; have := hexd_any s[k] w; rw [hok] at this; exact this)
        clear hi hall hok HA
        go_wp2_with (first | (go_at_call 120; refine (HP.out _).mono ?_; rintro e w' ⟨rfl, rfl⟩))
        go_ret
        exact ⟨congrArg (fun z => Ending.returned (.bool z)) HN.out.symm, rfl⟩
    · have HN := Lib.hid (show s.all hxd = true by rw [← HA.out, List.take_of_length_le (by omega)])
      have hkb : decide (k < (B s).size) = false := decide_eq_false (by omega)
      clear HA
      go_wp2
      go_ret
      exact ⟨congrArg (fun z => Ending.returned (.bool z)) HN.out.symm, rfl⟩
set_option maxHeartbeats 4000000 in
set_option maxRecDepth 100000 in
theorem chr16 (s : List UInt8) (hs : s.length ≤ 1099511627776) (w : World) : Calls Tryz.prog 119 #[.string (B s), .int .i64 16, .int .i64 6, .func (.func 120) #[] #[]] w fun e w' => e = .returned (.tuple #[.string (chr 16 6 hxd s).1, .bool (chr 16 6 hxd s).2]) ∧ Below w.heap.size w w' := by
  have hsz : (B s).size = s.length := B_size s
  obtain ⟨⟨q1, q2⟩, hq⟩ : ∃ q, chr 16 6 hxd s = q := ⟨_, rfl⟩
  rw [hq]
  unfold chr at hq
  by_cases h0 : s = []
  · rw [if_pos (.inl h0)] at hq
    have HQ := Lib.hid (Prod.mk.inj hq)
    subst h0
    have hemp : (B []).toList = [] := B_toList []
    have hem2 : (B []).toList.isEmpty = true := by rw [hemp]; rfl
    clear hq
    go_enter Tryz.func119, Tryz.ntmps119
    go_wp2
    go_ret2
    exact ⟨ret_sb HQ.out.1.symm HQ.out.2.symm, Below.refl _ _⟩
  · have hemp : (B s).toList.isEmpty = false := by
      rw [B_toList]
      cases s with
      | nil => exact absurd rfl h0
      | cons _ _ => rfl
    by_cases h1 : 6 < s.length
    · rw [if_pos (.inr (.inl h1))] at hq
      have HQ := Lib.hid (Prod.mk.inj hq)
      have h2 : 6 < (B s).size := by omega
      clear hq h0
      go_enter Tryz.func119, Tryz.ntmps119
      go_wp2
      go_ret2
      exact ⟨ret_sb HQ.out.1.symm HQ.out.2.symm, Below.refl _ _⟩
    · have h2 : (B s).size ≤ 6 := by omega
      have hall := all16 s hs
      cases ha : s.all hxd with
      | false =>
        rw [if_pos (.inr (.inr ha))] at hq
        have HQ := Lib.hid (Prod.mk.inj hq)
        rw [ha] at hall
        have HA := Lib.hid hall
        clear hq hall ha h0 h1
        go_enter Tryz.func119, Tryz.ntmps119
        go_wp2_with (first | (go_at_call 136; refine (HA.out _).mono ?_; rintro e w' ⟨rfl, rfl⟩))
        go_ret2
        exact ⟨ret_sb HQ.out.1.symm HQ.out.2.symm, Below.refl _ _⟩
      | true =>
        rw [if_neg (by rintro (h | h | h); exact h0 h; exact h1 h; rw [ha] at h; cases h)] at hq
        rw [ha] at hall
        have HA := Lib.hid hall
        have hdk : ∀ x ∈ s, dOk 16 x := fun x hx => (show hxd x = true → dOk 16 x from fun h => of_decide_eq_true h) (List.all_eq_true.1 ha x hx)
        have HP := Lib.hid (parseInt16 s h0 (by omega) hdk)
        have hlt := num_lt 16 (by decide) s.length s rfl hdk
        have h16 : (16 : Nat) ^ s.length ≤ 16 ^ 7 := Nat.pow_le_pow_right (by decide) (by omega)
        obtain ⟨nn, hnn⟩ : ∃ nn : Nat, num 16 s = nn := ⟨_, rfl⟩
        rw [hnn] at HP hq hlt
        have n1 : nn ≤ 268435455 := by omega
        clear hall ha h0 h1 hdk hlt h16 hnn
        by_cases hz : nn = 0
        · rw [show fixr nn = 65533 from if_pos (.inl hz)] at hq
          have HQ := Lib.hid (Prod.mk.inj hq)
          clear hq
          subst hz
          go_enter Tryz.func119, Tryz.ntmps119
          go_wp2_with (first | (go_at_call 136; refine (HA.out _).mono ?_; rintro e w' ⟨rfl, rfl⟩) | (go_at_call 137; refine (HP.out _).mono ?_; rintro e w' ⟨rfl, hb⟩; have HB := Lib.hid hb; clear hb))
          go_ret2
          exact ⟨ret_sb HQ.out.1.symm HQ.out.2.symm, HB.out⟩
        · have hzb : ((nn : Int) == 0) = false := beq_eq_false_iff_ne.2 (by omega)
          have n0 : 0 < nn := by omega
          cases hv : Lib.validRune (nn : Int) with
          | true =>
            rw [show fixr nn = (nn : Int) from if_neg (by rintro (h | h); exact hz h; rw [hv] at h; cases h)] at hq
            have HQ := Lib.hid (Prod.mk.inj hq)
            have HV := Lib.hid (show ∀ w, Calls Tryz.prog 138 #[.int .i32 (nn : Int)] w fun e w' => e = .returned (.bool true) ∧ w' = w from fun w => by have := Tryz.utf8_ValidRune (nn : Int) w; rw [hv] at this; exact this)
            clear hq hv hz
            go_enter Tryz.func119, Tryz.ntmps119
            go_wp2_with (first | (go_at_call 136; refine (HA.out _).mono ?_; rintro e w' ⟨rfl, rfl⟩) | (go_at_call 137; refine (HP.out _).mono ?_; rintro e w' ⟨rfl, hb⟩; have HB := Lib.hid hb; clear hb) | (go_at_call 138; refine (HV.out _).mono ?_; rintro e w' ⟨rfl, rfl⟩))
            go_ret2
            exact ⟨ret_sb HQ.out.1.symm HQ.out.2.symm, HB.out⟩
          | false =>
            rw [show fixr nn = 65533 from if_pos (.inr hv)] at hq
            have HQ := Lib.hid (Prod.mk.inj hq)
            have HV := Lib.hid (show ∀ w, Calls Tryz.prog 138 #[.int .i32 (nn : Int)] w fun e w' => e = .returned (.bool false) ∧ w' = w from fun w => by have := Tryz.utf8_ValidRune (nn : Int) w; rw [hv] at this; exact this)
            clear hq hv hz
            go_enter Tryz.func119, Tryz.ntmps119
            go_wp2_with (first | (go_at_call 136; refine (HA.out _).mono ?_; rintro e w' ⟨rfl, rfl⟩) | (go_at_call 137; refine (HP.out _).mono ?_; rintro e w' ⟨rfl, hb⟩; have HB := Lib.hid hb; clear hb) | (go_at_call 138; refine (HV.out _).mono ?_; rintro e w' ⟨rfl, rfl⟩))
            go_ret2
            exact ⟨ret_sb HQ.out.1.symm HQ.out.2.symm, HB.out⟩
end Go.Proofs.YtekifcbokdidlaaGreatDoor.PA

namespace Go.Proofs.YtekifcbokdidlaaGreatDoor.PA
open Go.RowKit Go.Proofs.YtekifcbokdidlaaGreatDoor.Pl Go.Proofs.YtekifcbokdidlaaGreatDoorW.PrintWords Go.Proofs.YtekifcbokdidlaaGreatDoorW.PrintLast Go.Proofs.YtekifcbokdidlaaGreatDoorW.PrintMore
set_option linter.unusedVariables false

/-- The character of what stands between & and ;. -/
def bdy : List UInt8 → ByteArray × Bool
  | [] => nmd []
  | x :: d => if x = 35 then
      match d with
      | [] => chr 10 7 dg []
      | y :: t => if (y.toNat ||| 32) = 120 then chr 16 6 hxd t else chr 10 7 dg (y :: t)
    else nmd (x :: d)
theorem bdy_no (x : UInt8) (d : List UInt8) (h : x ≠ 35) : bdy (x :: d) = nmd (x :: d) := by simp [bdy, h]
theorem bdy_35 : bdy [35] = chr 10 7 dg [] := rfl
theorem bdy_two (y : UInt8) (t : List UInt8) : bdy (35 :: y :: t) = if (y.toNat ||| 32) = 120 then chr 16 6 hxd t else chr 10 7 dg (y :: t) := rfl
set_option maxHeartbeats 4000000 in
set_option maxRecDepth 100000 in
theorem body_walk (s : List UInt8) (hs : s.length ≤ 1099511627776) (w : World) : Calls Tryz.prog 99 #[.string (B s)] w fun e w' => e = .returned (.tuple #[.string (bdy s).1, .bool (bdy s).2]) ∧ Below w.heap.size w w' := by
  have hcp := Tryz.strings_CutPrefix (B s) ⟨#[35]⟩
  rw [B_data, show (⟨#[35]⟩ : ByteArray).data.toList = [35] from rfl] at hcp
  obtain ⟨⟨q1, q2⟩, hq⟩ : ∃ q, bdy s = q := ⟨_, rfl⟩
  rw [hq]
  have hplain : Lib.hasPrefix s [35] = false → bdy s = nmd s := by
    intro h
    cases s with
    | nil => rfl
    | cons x d =>
      have hx : x ≠ 35 := by
        intro e
        subst e
        simp [Lib.hasPrefix, List.isPrefixOf] at h
      exact bdy_no x d hx
  cases hp : Lib.hasPrefix s [35] with
  | false =>
    have hr := hplain hp
    rw [hq] at hr
    have ht : Lib.trimPrefix s [35] = s := by unfold Lib.trimPrefix; rw [hp]; rfl
    rw [hp, ht] at hcp
    have HC := Lib.hid hcp
    have HN := Lib.hid (named_walk s)
    rw [← hr] at HN
    clear hcp hq hp hr ht hplain
    go_enter Tryz.func99, Tryz.ntmps99
    go_wp2_with (first | (go_at_call 27; refine (HC.out _).mono ?_; rintro e w' ⟨rfl, rfl⟩) | (go_at_call 118; refine (HN.out _).mono ?_; rintro e w' ⟨rfl, hb⟩; have HB := Lib.hid hb; clear hb))
    go_ret2
    exact ⟨rfl, HB.out⟩
  | true =>
    obtain ⟨d, rfl⟩ : ∃ d, s = 35 :: d := by
      cases s with
      | nil => cases hp
      | cons x d =>
        simp [Lib.hasPrefix, List.isPrefixOf] at hp
        exact ⟨d, by rw [hp]⟩
    have ht : Lib.trimPrefix (35 :: d) [35] = d := by unfold Lib.trimPrefix; rw [hp]; rfl
    rw [hp, ht] at hcp
    have HC := Lib.hid (show ∀ w, Calls Tryz.prog 27 #[.string (B (35 :: d)), .string ⟨#[35]⟩] w fun e w' => e = .returned (.tuple #[.string (B d), .bool true]) ∧ w' = w from hcp)
    clear hcp hp ht hplain
    rw [List.length_cons] at hs
    generalize B (35 :: d) = S0 at HC ⊢
    cases d with
    | nil =>
      have hb := hq.symm.trans bdy_35
      clear hq
      have HN := Lib.hid (chr10 [] (by simp))
      rw [← hb] at HN
      have hemp : (B []).toList = [] := B_toList []
      have hem2 : (B []).toList.isEmpty = true := by rw [hemp]; rfl
      clear hb
      go_enter Tryz.func99, Tryz.ntmps99
      go_wp2_with (first | (go_at_call 27; refine (HC.out _).mono ?_; rintro e w' ⟨rfl, rfl⟩) | (go_at_call 119; refine (HN.out _).mono ?_; rintro e w' ⟨rfl, hb⟩; have HB := Lib.hid hb; clear hb))
      go_ret2
      exact ⟨rfl, HB.out⟩
    | cons y t =>
      have hb := hq.symm.trans (bdy_two y t)
      clear hq
      have hemp : (B (y :: t)).toList.isEmpty = false := by rw [B_toList]; rfl
      have hz : 0 < (B (y :: t)).size := by rw [B_size]; simp
      have hz1 : 1 ≤ (B (y :: t)).size := hz
      have hi : (B (y :: t))[0]'hz = y := rfl
      have h32 := or32 y
      by_cases hxy : (y.toNat ||| 32) = 120
      · rw [if_pos hxy] at hb
        have HN := Lib.hid (chr16 t (by simp at hs; omega))
        rw [← hb] at HN
        have hex : (B (y :: t)).extract 1 (B (y :: t)).size = B t := B_from (y :: t) 1 _ (B_size _)
        have h120 : bits .or .u8 (((B (y :: t))[0]'hz).toNat : Int) 32 = 120 := by rw [hi, h32, hxy]; rfl
        clear hb hi h32 hxy
        go_enter Tryz.func99, Tryz.ntmps99
        go_wp2_with (first | (go_at_call 27; refine (HC.out _).mono ?_; rintro e w' ⟨rfl, rfl⟩) | (go_at_call 119; refine (HN.out _).mono ?_; rintro e w' ⟨rfl, hb⟩; have HB := Lib.hid hb; clear hb))
        go_ret2
        exact ⟨rfl, HB.out⟩
      · rw [if_neg hxy] at hb
        have HN := Lib.hid (chr10 (y :: t) (by simp at hs ⊢; omega))
        rw [← hb] at HN
        have h120 : (bits .or .u8 (((B (y :: t))[0]'hz).toNat : Int) 32 == 120) = false := by rw [hi, h32]; exact beq_eq_false_iff_ne.2 (by omega)
        clear hb hi h32 hxy
        go_enter Tryz.func99, Tryz.ntmps99
        go_wp2_with (first | (go_at_call 27; refine (HC.out _).mono ?_; rintro e w' ⟨rfl, rfl⟩) | (go_at_call 119; refine (HN.out _).mono ?_; rintro e w' ⟨rfl, hb⟩; have HB := Lib.hid hb; clear hb))
        go_ret2
        exact ⟨rfl, HB.out⟩
def entity_body.f (a0 : ByteArray) : Option (ByteArray × Bool) := if a0.size ≤ 1073741824 then some (bdy a0.data.toList) else none
theorem entity_body.calls (a0 : ByteArray) (r1 : ByteArray) (r2 : Bool) (w : World) (h : entity_body.f a0 = some (r1, r2)) :
    Calls Tryz.prog 99 #[.string a0] w fun e w' => e = .returned (.tuple #[.string r1, .bool r2]) ∧ Below w.heap.size w w' := by
  unfold entity_body.f at h
  split at h
  · rename_i hc
    have h2 := body_walk a0.data.toList (by rw [Array.length_toList]; show a0.size ≤ _; omega) w
    rw [Option.some.inj h, B_eta] at h2
    exact h2
  · cases h
end Go.Proofs.YtekifcbokdidlaaGreatDoor.PA

namespace Go.Proofs.YtekifcbokdidlaaGreatDoor.PA
open Go.RowKit Go.Proofs.YtekifcbokdidlaaGreatDoorW.PrintWords

def strings_HasPrefix.f (a0 : ByteArray) (a1 : ByteArray) : Option Bool := some (Lib.hasPrefix a0.data.toList a1.data.toList)
theorem strings_HasPrefix.calls (a0 : ByteArray) (a1 : ByteArray) (r : Bool) (w : World) (h : strings_HasPrefix.f a0 a1 = some r) :
    Calls Tryz.prog 44 #[.string a0, .string a1] w fun e w' => e = .returned (.bool r) ∧ Drawn0 w w' := by
  unfold strings_HasPrefix.f at h
  have h2 := Option.some.inj h
  subst h2
  refine (Tryz.strings_HasPrefix a0 a1 w).mono ?_
  rintro e w' ⟨rfl, rfl⟩
  exact ⟨rfl, Drawn0.refl _⟩
def strings_CutPrefix.f (a0 : ByteArray) (a1 : ByteArray) : Option (ByteArray × Bool) := some (⟨(Lib.trimPrefix a0.data.toList a1.data.toList).toArray⟩, Lib.hasPrefix a0.data.toList a1.data.toList)
theorem strings_CutPrefix.calls (a0 : ByteArray) (a1 : ByteArray) (r1 : ByteArray) (r2 : Bool) (w : World) (h : strings_CutPrefix.f a0 a1 = some (r1, r2)) :
    Calls Tryz.prog 27 #[.string a0, .string a1] w fun e w' => e = .returned (.tuple #[.string r1, .bool r2]) ∧ Drawn0 w w' := by
  unfold strings_CutPrefix.f at h
  have h2 := Option.some.inj h
  obtain ⟨rfl, rfl⟩ := Prod.mk.inj h2
  refine (Tryz.strings_CutPrefix a0 a1 w).mono ?_
  rintro e w' ⟨rfl, rfl⟩
  exact ⟨rfl, Drawn0.refl _⟩
def strings_Cut.f (a0 : ByteArray) (a1 : ByteArray) : Option (ByteArray × ByteArray × Bool) := if a0.size ≤ 4294967280 then some (⟨(Lib.cut a0.data.toList a1.data.toList).1.toArray⟩, ⟨(Lib.cut a0.data.toList a1.data.toList).2.1.toArray⟩, (Lib.cut a0.data.toList a1.data.toList).2.2) else none
theorem strings_Cut.calls (a0 : ByteArray) (a1 : ByteArray) (r1 : ByteArray) (r2 : ByteArray) (r3 : Bool) (w : World) (hLd : Laid w) (h : strings_Cut.f a0 a1 = some (r1, r2, r3)) :
    Calls Tryz.prog 98 #[.string a0, .string a1] w fun e w' => e = .returned (.tuple #[.string r1, .string r2, .bool r3]) ∧ Below w.heap.size w w' := by
  unfold strings_Cut.f at h
  split at h
  · rename_i hc
    have h2 := Option.some.inj h
    simp only [Prod.mk.injEq] at h2; obtain ⟨rfl, rfl, rfl⟩ := h2
    obtain ⟨m, hm⟩ := hLd.ml
    refine (Tryz.strings_Cut a0 a1 m w (by omega) hm).mono ?_
    rintro e w' ⟨rfl, n, rfl⟩
    exact ⟨rfl, pw_below_drewN (Below.refl _ _) n⟩
  · cases h
theorem one_byte (a : ByteArray) (h : a.size = 1) : ∃ c, a = ⟨#[c]⟩ := by
  obtain ⟨⟨l⟩⟩ := a
  match l, h with
  | [c], _ => exact ⟨c, rfl⟩
def strings_Count.f (a0 : ByteArray) (a1 : ByteArray) : Option Int := if a1.size = 1 then some (Lib.countByte a0.data.toList (a1.data.toList.getD 0 0) : Int) else none
theorem strings_Count.calls (a0 : ByteArray) (a1 : ByteArray) (r : Int) (w : World) (h : strings_Count.f a0 a1 = some r) :
    Calls Tryz.prog 49 #[.string a0, .string a1] w fun e w' => e = .returned (.int .i64 r) ∧ Drawn0 w w' := by
  unfold strings_Count.f at h
  split at h
  · rename_i hc
    have h2 := Option.some.inj h
    subst h2
    obtain ⟨c, hc2⟩ : ∃ c, a1 = ⟨#[c]⟩ := one_byte a1 hc
    subst hc2
    refine (Tryz.strings_Count_one a0 c w).mono ?_
    rintro e w' ⟨rfl, rfl⟩
    exact ⟨rfl, Drawn0.refl _⟩
  · cases h
def strings_Split.f (a0 a1 : ByteArray) : Option (List ByteArray) := if a0.size ≤ 4294967280 ∧ 1 ≤ a1.size then some (Lib.splitB a1 0 (Lib.countB a0 a1) a0) else none
theorem strings_Split.calls (a0 a1 : ByteArray) (r : List ByteArray) (w : World) (hLd : Laid w) (h : strings_Split.f a0 a1 = some r) :
    Calls Tryz.prog 100 #[.string a0, .string a1] w fun e w' => ∃ v0_, e = .returned v0_ ∧ Kd.R Kd.string 9 w' w.heap.size (fun _ => True) v0_ r ∧ Below w.heap.size w w' := by
  unfold strings_Split.f at h
  split at h
  · rename_i hc
    obtain rfl := Option.some.inj h
    obtain ⟨m, hm⟩ := hLd.ml
    have hl := Lib.splitB_all a1 hc.2 0 _ a0 rfl
    have hk : Lib.countB a0 a1 ≤ 9223372036854775806 := by have := Lib.countB_le a1 hc.2 a0.size a0 (Nat.le_refl _); omega
    refine (Tryz.strings_Split a0 a1 m w (by omega) hm hc.2).mono ?_
    rintro e w' ⟨rfl, rfl⟩
    refine ⟨_, rfl, ⟨fun _ _ => trivial, ?_⟩, (Below.refl _ w).alloc (Nat.le_refl _) _⟩
    rw [← hl]
    exact OwnRow.lit w w.heap.size (Kd.reps_scalar _) (Nat.le_refl _) (by omega)
  · cases h
end Go.Proofs.YtekifcbokdidlaaGreatDoor.PA

namespace Go.Proofs.YtekifcbokdidlaaGreatDoor.Pure
open Go.RowKit Go.Proofs.YtekifcbokdidlaaGreatDoorW.PrintWords Go.Proofs.YtekifcbokdidlaaGreatDoorW.PrintMore Go.Proofs.YtekifcbokdidlaaGreatDoor.Pl Go.Proofs.YtekifcbokdidlaaGreatDoor.PA

/-- What stands ahead of the first ;. -/
def upto : List UInt8 → List UInt8
  | [] => []
  | x :: t => if x = 59 then [] else x :: upto t
theorem upto_len : ∀ t : List UInt8, (upto t).length ≤ t.length
  | [] => Nat.le_refl _
  | x :: t => by
    have := upto_len t
    unfold upto
    split
    · simp
    · simp; exact this
theorem upto_lt : ∀ t : List UInt8, (59 : UInt8) ∈ t → (upto t).length < t.length
  | [], h => by cases h
  | x :: t, h => by
    unfold upto
    split
    · simp
    · rename_i hx
      have := upto_lt t (by rcases List.mem_cons.1 h with e | e; exact absurd e.symm hx; exact e)
      simpa using this
theorem upto_take : ∀ t : List UInt8, t.take (upto t).length = upto t
  | [] => rfl
  | x :: t => by
    unfold upto
    split
    · rfl
    · simp [upto_take t]
theorem upto_no : ∀ t : List UInt8, (59 : UInt8) ∉ upto t
  | [] => by simp [upto]
  | x :: t => by
    unfold upto
    split
    · simp
    · rename_i hx
      rw [List.mem_cons]
      rintro (e | e)
      · exact hx e.symm
      · exact upto_no t e
theorem idx59 : ∀ t : List UInt8, Lib.index t [59] = if (59 : UInt8) ∈ t then ((upto t).length : Int) else -1
  | [] => by rw [if_neg (by simp)]; rfl
  | x :: t => by
    rw [Lib.index, upto]
    by_cases hx : x = 59
    · subst hx
      rw [if_pos (by simp [List.isPrefixOf]), if_pos (by simp), if_pos rfl]
      rfl
    · have hm : (59 : UInt8) ∈ x :: t ↔ (59 : UInt8) ∈ t := by rw [List.mem_cons]; exact ⟨fun h => h.resolve_left (fun e => hx e.symm), .inr⟩
      rw [if_neg (by simp [List.isPrefixOf] <;> exact fun e => hx e.symm), idx59 t, if_neg hx]
      by_cases h : (59 : UInt8) ∈ t
      · rw [if_pos h, if_pos (hm.2 h), if_neg (by simp <;> omega)]
        simp
      · rw [if_neg h, if_neg (fun e => h (hm.1 e))]
        rfl
theorem cut59 (t : List UInt8) : Lib.cut t [59] = if (59 : UInt8) ∈ t then (upto t, t.drop ((upto t).length + 1), true) else (t, [], false) := by
  unfold Lib.cut
  rw [idx59]
  by_cases h : (59 : UInt8) ∈ t
  · rw [if_pos h, if_pos (by omega), if_pos h, Int.toNat_natCast, upto_take]
    rfl
  · rw [if_neg h, if_neg (by decide), if_neg h]
/-- What is read. -/
def rdE : List UInt8 → ByteArray × Int
  | [] => (⟨#[]⟩, 0)
  | x :: t => if x = 38 then if (59 : UInt8) ∈ t then if (bdy (upto t)).2 = true then ((bdy (upto t)).1, ((upto t).length : Int) + 2) else (⟨#[]⟩, 0) else (⟨#[]⟩, 0) else (⟨#[]⟩, 0)
/-! #### names -/
theorem bsr_self : ∀ k, k < 183 → bsr (enm k) 183 0 183 = k := by
  have h : (List.range 183).all (fun k => bsr (enm k) 183 0 183 == k) = true := by decide +kernel
  intro k hk
  exact beq_iff_eq.1 (List.all_eq_true.1 h k (List.mem_range.2 hk))
theorem nmd_hit (k : Nat) (hk : k < 183) : nmd (enm k) = (Go.Utf8.encode (enn k), true) := by
  unfold nmd
  rw [bsr_self k hk, if_pos ⟨hk, rfl⟩]
theorem nmd_miss (t : List UInt8) (h : ∀ k, k < 183 → enm k ≠ t) : nmd t = (⟨#[]⟩, false) := by
  unfold nmd
  rw [if_neg (fun e => h _ e.1 e.2)]
theorem nmd_cases (t : List UInt8) : (∃ k, k < 183 ∧ enm k = t) ∨ ∀ k, k < 183 → enm k ≠ t := by
  by_cases h : ∃ k, k < 183 ∧ enm k = t
  · exact .inl h
  · exact .inr (fun k hk e => h ⟨k, hk, e⟩)
/-- What is read, and what is not. -/
theorem rdE_cases (s : List UInt8) : rdE s = (⟨#[]⟩, 0) ∨ ∃ d u, s = 38 :: (d ++ 59 :: u) ∧ (59 : UInt8) ∉ d ∧ (bdy d).2 = true ∧ rdE s = ((bdy d).1, (d.length : Int) + 2) := by
  cases s with
  | nil => exact .inl rfl
  | cons x t =>
    by_cases hx : x = 38
    · subst hx
      by_cases h : (59 : UInt8) ∈ t
      · by_cases hb : (bdy (upto t)).2 = true
        · have hl := upto_lt t h
          refine .inr ⟨upto t, t.drop ((upto t).length + 1), ?_, upto_no t, hb, by rw [rdE, if_pos rfl, if_pos h, if_pos hb]⟩
          congr 1
          have h59 : ∀ t : List UInt8, (59 : UInt8) ∈ t → t = upto t ++ 59 :: t.drop ((upto t).length + 1) := by
            intro t
            induction t with
            | nil => intro h; cases h
            | cons x t ih =>
              intro h
              by_cases hx : x = 59
              · subst hx
                simp [upto]
              · have h2 : (59 : UInt8) ∈ t := by rcases List.mem_cons.1 h with e | e; exact absurd e.symm hx; exact e
                rw [upto, if_neg hx, List.length_cons, List.drop_succ_cons, List.cons_append, ← ih h2]
          exact h59 t h
        · exact .inl (by rw [rdE, if_pos rfl, if_pos h, if_neg hb])
      · exact .inl (by rw [rdE, if_pos rfl, if_neg h])
    · exact .inl (by rw [rdE, if_neg hx])
end Go.Proofs.YtekifcbokdidlaaGreatDoor.Pure

namespace Go.Proofs.YtekifcbokdidlaaGreatDoor.PA
open Go.RowKit Go.Proofs.YtekifcbokdidlaaGreatDoor.Pl Go.Proofs.YtekifcbokdidlaaGreatDoorW.PrintWords Go.Proofs.YtekifcbokdidlaaGreatDoorW.PrintMore Go.Proofs.YtekifcbokdidlaaGreatDoor.Pure
set_option linter.unusedVariables false

theorem pre38 (s : List UInt8) (w : World) : Calls Tryz.prog 44 #[.string (B s), .string ⟨#[38]⟩] w fun e w' => e = .returned (.bool (decide (s.head? = some 38))) ∧ Drawn0 w w' := by
  refine strings_HasPrefix.calls (B s) ⟨#[38]⟩ _ w ?_
  unfold strings_HasPrefix.f
  rw [B_data, show (⟨#[38]⟩ : ByteArray).data.toList = [38] from rfl]
  congr 1
  cases s with
  | nil => rfl
  | cons x t =>
    by_cases hx : x = 38
    · subst hx
      simp [Lib.hasPrefix, List.isPrefixOf]
    · simp [Lib.hasPrefix, List.isPrefixOf, hx]
      exact fun e => hx e.symm
theorem cutB (t : List UInt8) (ht : t.length ≤ 1073741824) (w : World) (hLd : Laid w) : Calls Tryz.prog 98 #[.string (B t), .string ⟨#[59]⟩] w fun e w' =>
    e = .returned (if (59 : UInt8) ∈ t then .tuple #[.string (B (upto t)), .string (B (t.drop ((upto t).length + 1))), .bool true] else .tuple #[.string (B t), .string (B []), .bool false]) ∧ Below w.heap.size w w' := by
  by_cases h : (59 : UInt8) ∈ t
  · rw [if_pos h]
    refine strings_Cut.calls (B t) ⟨#[59]⟩ _ _ _ w hLd ?_
    unfold strings_Cut.f
    rw [if_pos (by rw [B_size]; omega), B_data, show (⟨#[59]⟩ : ByteArray).data.toList = [59] from rfl, cut59, if_pos h]
    rfl
  · rw [if_neg h]
    refine strings_Cut.calls (B t) ⟨#[59]⟩ _ _ _ w hLd ?_
    unfold strings_Cut.f
    rw [if_pos (by rw [B_size]; omega), B_data, show (⟨#[59]⟩ : ByteArray).data.toList = [59] from rfl, cut59, if_neg h]
    rfl
set_option maxHeartbeats 2000000 in
set_option maxRecDepth 100000 in
theorem read_walk (s : List UInt8) (hs : s.length ≤ 1073741824) (w : World) (hLd : Laid w) :
    Calls Tryz.prog 77 #[.string (B s)] w fun e w' => e = .returned (.tuple #[.string (rdE s).1, .int .i64 (rdE s).2]) ∧ Below w.heap.size w w' := by
  have HP := Lib.hid (pre38 s)
  have HL := Lib.hid hLd
  clear hLd
  by_cases h38 : s.head? = some 38
  · rw [decide_eq_true h38] at HP
    obtain ⟨t, rfl⟩ : ∃ t, s = 38 :: t := by
      cases s with
      | nil => cases h38
      | cons x t => exact ⟨t, by rw [Option.some.inj h38]⟩
    rw [List.length_cons] at hs
    have hsz : (B (38 :: t)).size = t.length + 1 := B_size _
    have hz1 : 1 ≤ (B (38 :: t)).size := by omega
    have hex : (B (38 :: t)).extract 1 (B (38 :: t)).size = B t := B_from (38 :: t) 1 _ (B_size _)
    have hex2 : (B (38 :: t)).extract 1 (t.length + 1) = B t := B_from (38 :: t) 1 _ rfl
    have hC := Lib.hid (cutB t (by omega))
    have hrd : rdE (38 :: t) = if (59 : UInt8) ∈ t then if (bdy (upto t)).2 = true then ((bdy (upto t)).1, ((upto t).length : Int) + 2) else (⟨#[]⟩, 0) else (⟨#[]⟩, 0) := by rw [rdE, if_pos rfl]
    rw [hrd]
    have hul := upto_len t
    clear hrd h38
    generalize B (38 :: t) = S at *
    by_cases h59 : (59 : UInt8) ∈ t
    · rw [if_pos h59] at hC ⊢
      have hB := Lib.hid (entity_body.calls (B (upto t)) (bdy (upto t)).1 (bdy (upto t)).2)
      have hf : entity_body.f (B (upto t)) = some ((bdy (upto t)).1, (bdy (upto t)).2) := by unfold entity_body.f; rw [if_pos (by rw [B_size]; omega), B_data]
      have HF := Lib.hid hf
      have hus : (B (upto t)).size = (upto t).length := B_size _
      clear hf h59
      generalize B (upto t) = U at *
      generalize B (t.drop ((upto t).length + 1)) = V at *
      generalize (bdy (upto t)).1 = Q1 at *
      cases hb : (bdy (upto t)).2 with
      | true =>
        rw [hb] at hB HF
        clear hb
        rw [if_pos rfl]
        generalize (upto t).length = n at *
        go_enter Tryz.func77, Tryz.ntmps77
        go_wp2_with fail
        refine (HP.out _).mono ?_
        rintro e w1 ⟨rfl, hd⟩
        have HB1 := Lib.hid hd.below
        clear hd
        go_wp2_with fail
        with_reducible refine (hC.out _ (HL.out.go HB1.out)).mono ?_
        rintro e w2 ⟨rfl, hb2⟩
        have HB2 := Lib.hid (HB1.out.trans (hb2.mono HB1.out.size))
        clear hb2
        go_wp2_with fail
        refine (hB.out _ HF.out).mono ?_
        rintro e w3 ⟨rfl, hb3⟩
        have HB3 := Lib.hid (HB2.out.trans (hb3.mono HB2.out.size))
        clear hb3
        go_wp2
        go_ret2
        exact ⟨rfl, HB3.out⟩
      | false =>
        rw [hb] at hB HF
        clear hb
        rw [if_neg (by decide)]
        go_enter Tryz.func77, Tryz.ntmps77
        go_wp2_with fail
        refine (HP.out _).mono ?_
        rintro e w1 ⟨rfl, hd⟩
        have HB1 := Lib.hid hd.below
        clear hd
        go_wp2_with fail
        with_reducible refine (hC.out _ (HL.out.go HB1.out)).mono ?_
        rintro e w2 ⟨rfl, hb2⟩
        have HB2 := Lib.hid (HB1.out.trans (hb2.mono HB1.out.size))
        clear hb2
        go_wp2_with fail
        refine (hB.out _ HF.out).mono ?_
        rintro e w3 ⟨rfl, hb3⟩
        have HB3 := Lib.hid (HB2.out.trans (hb3.mono HB2.out.size))
        clear hb3
        go_wp2
        go_ret2
        exact ⟨rfl, HB3.out⟩
    · rw [if_neg h59] at hC ⊢
      generalize B t = V at *
      generalize B [] = V0 at *
      clear h59
      go_enter Tryz.func77, Tryz.ntmps77
      go_wp2_with fail
      refine (HP.out _).mono ?_
      rintro e w1 ⟨rfl, hd⟩
      have HB1 := Lib.hid hd.below
      clear hd
      go_wp2_with fail
      refine (hC.out _ (HL.out.go HB1.out)).mono ?_
      rintro e w2 ⟨rfl, hb2⟩
      have HB2 := Lib.hid (HB1.out.trans (hb2.mono HB1.out.size))
      clear hb2
      go_wp2
      go_ret2
      exact ⟨rfl, HB2.out⟩
  · rw [decide_eq_false h38] at HP
    have hrd : rdE s = (⟨#[]⟩, 0) := by
      cases s with
      | nil => rfl
      | cons x t => rw [rdE, if_neg (fun e => h38 (by rw [e]; rfl))]
    rw [hrd]
    clear hrd h38
    go_enter Tryz.func77, Tryz.ntmps77
    go_wp2_with fail
    refine (HP.out _).mono ?_
    rintro e w1 ⟨rfl, hd⟩
    have HB1 := Lib.hid hd.below
    clear hd
    go_wp2
    go_ret2
    exact ⟨rfl, HB1.out⟩
end Go.Proofs.YtekifcbokdidlaaGreatDoor.PA

namespace Go.Proofs.YtekifcbokdidlaaGreatDoor.Pl
open Go.RowKit Go.Proofs.YtekifcbokdidlaaGreatDoorW.PrintWords

/-! #### HTML -/
/-- A byte as it stands in HTML. -/
def esc (x : UInt8) : List UInt8 := if x = 38 then [38, 97, 109, 112, 59] else if x = 60 then [38, 108, 116, 59] else if x = 62 then [38, 103, 116, 59] else if x = 34 then [38, 113, 117, 111, 116, 59] else [x]
/-- A text as it stands in HTML. -/
def htm (l : List UInt8) : List UInt8 := l.flatMap esc
/-! #### an address -/
end Go.Proofs.YtekifcbokdidlaaGreatDoor.Pl

namespace Go.Proofs.YtekifcbokdidlaaGreatDoor.PA
open Go.RowKit Go.Proofs.YtekifcbokdidlaaGreatDoor.Pl Go.Proofs.YtekifcbokdidlaaGreatDoorW.PrintWords Go.Proofs.YtekifcbokdidlaaGreatDoorW.PrintLast Go.Proofs.YtekifcbokdidlaaGreatDoorW.PrintMore
set_option linter.unusedVariables false

/-- The spans of signs. -/
def spn : List (Nat × Nat) := [(33, 47), (58, 64), (91, 96), (123, 126), (161, 169), (171, 172), (174, 177), (180, 180), (182, 184), (187, 187), (191, 191), (215, 215), (247, 247), (8208, 8231), (8240, 8286), (8352, 8384), (12289, 12291), (12296, 12319), (65281, 65295)]
def inS (r : Int) (e : Nat × Nat) : Bool := decide ((e.1 : Int) ≤ r) && decide (r ≤ (e.2 : Int))
def punct (r : Int) : Bool := spn.any (inS r)
set_option maxHeartbeats 1000000 in
theorem has_any (lo hi r : Int) (w : World) : Calls Tryz.prog 112 #[.agg #[.int .i32 lo, .int .i32 hi], .int .i32 r] w fun e w' => e = .returned (.bool (decide (lo ≤ r) && decide (r ≤ hi))) ∧ Below w.heap.size w w' := by
  by_cases h1 : lo ≤ r
  · by_cases h2 : r ≤ hi
    · rw [decide_eq_true h1, decide_eq_true h2]
      go_enter Tryz.func112, Tryz.ntmps112
      go_wp2
      go_ret
      exact ⟨rfl, (Below.refl _ _).alloc (Nat.le_refl _) _⟩
    · rw [decide_eq_true h1, decide_eq_false h2]
      have q := decide_eq_false h2
      go_enter Tryz.func112, Tryz.ntmps112
      go_wp2
      go_ret
      exact ⟨rfl, (Below.refl _ _).alloc (Nat.le_refl _) _⟩
  · rw [decide_eq_false h1]
    have q := decide_eq_false h1
    go_enter Tryz.func112, Tryz.ntmps112
    go_wp2
    go_ret
    exact ⟨rfl, (Below.refl _ _).alloc (Nat.le_refl _) _⟩
def spCells : Array Value := #[Value.int .i32 33, Value.int .i32 47, Value.int .i32 58, Value.int .i32 64, Value.int .i32 91, Value.int .i32 96, Value.int .i32 123, Value.int .i32 126, Value.int .i32 161, Value.int .i32 169, Value.int .i32 171, Value.int .i32 172, Value.int .i32 174, Value.int .i32 177, Value.int .i32 180, Value.int .i32 180, Value.int .i32 182, Value.int .i32 184, Value.int .i32 187, Value.int .i32 187, Value.int .i32 191, Value.int .i32 191, Value.int .i32 215, Value.int .i32 215, Value.int .i32 247, Value.int .i32 247, Value.int .i32 8208, Value.int .i32 8231, Value.int .i32 8240, Value.int .i32 8286, Value.int .i32 8352, Value.int .i32 8384, Value.int .i32 12289, Value.int .i32 12291, Value.int .i32 12296, Value.int .i32 12319, Value.int .i32 65281, Value.int .i32 65295]
theorem spDesc : Tryz.prog.underlying 120 = some (.array 19 119) := by kernel_rfl
theorem spSize : Tryz.prog.cellsOf 119 = 2 := by kernel_rfl
theorem spInfo : ∃ i, Tryz.prog.info? 119 = some i := by
  cases h : Tryz.prog.info? 119 with
  | none => exact absurd (show (Tryz.prog.info? 119).isSome = true by kernel_rfl) (by rw [h]; decide)
  | some i => exact ⟨i, rfl⟩
theorem sp_cut : ∀ k : Nat, k < 19 → spCells.extract (k * 2) (k * 2 + 2) = #[.int .i32 ((spn.getD k (0, 0)).1 : Int), .int .i32 ((spn.getD k (0, 0)).2 : Int)] := by
  intro k hk
  have : k = 0 ∨ k = 1 ∨ k = 2 ∨ k = 3 ∨ k = 4 ∨ k = 5 ∨ k = 6 ∨ k = 7 ∨ k = 8 ∨ k = 9 ∨ k = 10 ∨ k = 11 ∨ k = 12 ∨ k = 13 ∨ k = 14 ∨ k = 15 ∨ k = 16 ∨ k = 17 ∨ k = 18 := by omega
  rcases this with rfl | rfl | rfl | rfl | rfl | rfl | rfl | rfl | rfl | rfl | rfl | rfl | rfl | rfl | rfl | rfl | rfl | rfl | rfl <;> rfl
theorem sp_index (k : Nat) (hk : k < 19) (w : World) : (Instr.index 120 (.agg spCells) (.int .i64 k)).run Tryz.prog w = .ok (.agg #[.int .i32 ((spn.getD k (0, 0)).1 : Int), .int .i32 ((spn.getD k (0, 0)).2 : Int)]) w := by
  obtain ⟨i, hi⟩ := spInfo
  have h3 := sp_cut k hk
  generalize hE : spCells = E at h3 ⊢
  clear hE
  simp [Instr.index, asIntOf, run_underlying spDesc, hk, part, run_sizeOf w hi, spSize, h3, go_sem]
theorem any_snoc (r : Int) (k : Nat) (hk : k < spn.length) : (spn.take (k + 1)).any (inS r) = ((spn.take k).any (inS r) || inS r (spn.getD k (0, 0))) := by
  rw [List.take_succ_eq_append_getElem hk, List.any_append, List.getD_eq_getElem?_getD, List.getElem?_eq_getElem hk]
  simp
set_option maxHeartbeats 4000000 in
set_option maxRecDepth 100000 in
theorem punct_walk (r : Int) (w : World) : Calls Tryz.prog 96 #[.int .i32 r] w fun e w' => e = .returned (.bool (punct r)) ∧ Below w.heap.size w w' := by
  obtain ⟨R, hR⟩ : ∃ R, punct r = R := ⟨_, rfl⟩
  rw [hR]
  have HR := Lib.hid hR
  clear hR
  go_enter Tryz.func96, Tryz.ntmps96
  go_wp2
  go_loopw [25] (fun vi wr => ∃ k : Nat, vi = .int .i64 k ∧ k ≤ 19 ∧ Hid ((spn.take k).any (inS r) = false) ∧ Hid (Below w.heap.size w wr))
    (fun vi _ => 19 - (intOf vi).toNat)
  case atStart => exact ⟨0, rfl, by omega, rfl, Below.refl _ _⟩
  case round =>
    obtain ⟨k, rfl, hk, HP, HB⟩ := hrel
    by_cases hlt : k < 19
    · have hix := fun w => sp_index k hlt w
      simp only [spCells] at hix
      have hsn := any_snoc r k hlt
      rw [HP.out, Bool.false_or] at hsn
      have hmem : inS r (spn.getD k (0, 0)) = true → punct r = true := by
        intro h
        unfold punct
        rw [List.any_eq_true]
        refine ⟨spn.getD k (0, 0), ?_, h⟩
        rw [List.getD_eq_getElem?_getD, List.getElem?_eq_getElem (show k < spn.length from hlt)]
        exact List.getElem_mem _
      have hin : inS r (spn.getD k (0, 0)) = (decide (((spn.getD k (0, 0)).1 : Int) ≤ r) && decide (r ≤ ((spn.getD k (0, 0)).2 : Int))) := rfl
      generalize spn.getD k (0, 0) = e at hix hsn hmem hin
      have hsz := HB.out.size
      have HM := Lib.hid hmem
      have HS := Lib.hid hsn
      have HI := Lib.hid hin
      clear hmem hsn hin HP
      go_wp2_with fail
      refine (has_any _ _ _ _).mono ?_
      rintro e2 w2 ⟨rfl, hb2⟩
      have HB2 := Lib.hid ((HB.out.alloc hsz _).trans (hb2.mono (by have := hsz; simp; omega)))
      clear hb2 HB
      rw [← HI.out]
      cases hb : inS r e with
      | true =>
        have HT := Lib.hid (HM.out hb)
        clear HM HS HI hb hix
        go_wp2
        go_ret
        exact ⟨congrArg (fun z => Ending.returned (.bool z)) (HT.out.symm.trans HR.out), HB2.out⟩
      | false =>
        have HF := Lib.hid (HS.out.trans hb)
        clear HM HS HI hb hix
        go_wp2
        go_roundw
        case rel => exact ⟨k + 1, by first | rfl | simp, by omega, HF, HB2⟩
        case measure => simp [intOf]; omega
    · obtain rfl : k = 19 := by omega
      have HT := Lib.hid (show punct r = false from HP.out)
      go_wp2
      go_ret
      exact ⟨congrArg (fun z => Ending.returned (.bool z)) (HT.out.symm.trans HR.out), HB.out⟩
end Go.Proofs.YtekifcbokdidlaaGreatDoor.PA

namespace Go.Proofs.YtekifcbokdidlaaGreatDoor.Pl
open Go.RowKit Go.Proofs.YtekifcbokdidlaaGreatDoorW.PrintWords Go.Proofs.YtekifcbokdidlaaGreatDoor.PA Go.Proofs.YtekifcbokdidlaaGreatDoor.Pure

/-! #### without backslashes and references -/
/-- Is a byte a sign? -/
def sgn (x : UInt8) : Bool := decide (x.toNat < 128) && punct (x.toNat : Int)
/-- What a text begins with, without backslash and reference, and how long it is in the text. -/
def stp : List UInt8 → List UInt8 × Nat
  | [] => ([], 1)
  | x :: t => if x = 92 ∧ ∃ y ∈ t.head?, sgn y = true then (t.take 1, 2) else if 0 < (rdE (x :: t)).2 then ((rdE (x :: t)).1.data.toList, (rdE (x :: t)).2.toNat) else ([x], 1)
theorem stp_cons (x : UInt8) (t : List UInt8) : stp (x :: t) = if x = 92 ∧ ∃ y ∈ t.head?, sgn y = true then (t.take 1, 2) else if 0 < (rdE (x :: t)).2 then ((rdE (x :: t)).1.data.toList, (rdE (x :: t)).2.toNat) else ([x], 1) := rfl
def uneF : Nat → List UInt8 → List UInt8
  | 0, _ => []
  | _ + 1, [] => []
  | n + 1, x :: t => (stp (x :: t)).1 ++ uneF n ((x :: t).drop (stp (x :: t)).2)
/-- A text without backslashes and references. -/
def une (l : List UInt8) : List UInt8 := uneF l.length l
theorem stp_pos (l : List UInt8) : 1 ≤ (stp l).2 := by
  cases l with
  | nil => exact Nat.le_refl _
  | cons x t =>
    rw [stp_cons]
    split
    · exact Nat.le_succ 1
    · split
      · show 1 ≤ (rdE (x :: t)).2.toNat
        omega
      · exact Nat.le_refl _
theorem stp_le (x : UInt8) (t : List UInt8) : (stp (x :: t)).2 ≤ (x :: t).length := by
  rw [stp_cons]
  split
  · rename_i h
    obtain ⟨_, y, hy, _⟩ := h
    cases t with
    | nil => cases hy
    | cons z u => simp
  · split
    · rcases rdE_cases (x :: t) with h | ⟨d, u, he, _, _, hr⟩
      · rename_i h0
        rw [h] at h0
        exact absurd h0 (by decide)
      · rw [hr, he]
        simp only [List.length_cons, List.length_append]
        omega
    · simp
theorem uneF_le : ∀ (n m : Nat) (l : List UInt8), l.length ≤ n → l.length ≤ m → uneF n l = uneF m l
  | n, m, [], _, _ => by cases n <;> cases m <;> rfl
  | 0, m, x :: t, h, _ => by simp at h
  | n + 1, 0, x :: t, _, h => by simp at h
  | n + 1, m + 1, x :: t, h1, h2 => by
    rw [uneF, uneF]
    congr 1
    have := stp_pos (x :: t)
    rw [List.length_cons] at h1 h2
    exact uneF_le n m _ (by rw [List.length_drop, List.length_cons]; omega) (by rw [List.length_drop, List.length_cons]; omega)
theorem une_cons (x : UInt8) (t : List UInt8) : une (x :: t) = (stp (x :: t)).1 ++ une ((x :: t).drop (stp (x :: t)).2) := by
  have := stp_pos (x :: t)
  unfold une
  rw [List.length_cons, uneF]
  congr 1
  exact uneF_le _ _ _ (by rw [List.length_drop, List.length_cons]; omega) (Nat.le_refl _)
theorem stp_sgn (y : UInt8) (u : List UInt8) (h : sgn y = true) : stp (92 :: y :: u) = ([y], 2) := by
  rw [stp_cons]
  rw [if_pos ⟨rfl, y, rfl, h⟩]
  rfl
theorem rdE_ne (x : UInt8) (t : List UInt8) (h : x ≠ 38) : rdE (x :: t) = (⟨#[]⟩, 0) := by rw [rdE, if_neg h]
theorem stp_one (x : UInt8) (t : List UInt8) (h1 : x = 92 → ∀ y u, t = y :: u → sgn y = false) (h2 : ¬ 0 < (rdE (x :: t)).2) : stp (x :: t) = ([x], 1) := by
  rw [stp_cons]
  rw [if_neg, if_neg h2]
  rintro ⟨e, y, hy, hs⟩
  cases t with
  | nil => cases hy
  | cons z u =>
    obtain rfl := Option.some.inj hy
    rw [h1 e z u rfl] at hs
    cases hs
theorem stp_plain (x : UInt8) (t : List UInt8) (h1 : x ≠ 92) (h2 : x ≠ 38) : stp (x :: t) = ([x], 1) :=
  stp_one x t (fun e => absurd e h1) (by rw [rdE_ne x t h2]; decide)
/-! #### there and back -/
end Go.Proofs.YtekifcbokdidlaaGreatDoor.Pl
