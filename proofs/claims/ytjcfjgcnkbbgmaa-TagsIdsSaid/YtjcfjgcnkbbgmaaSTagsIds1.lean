/-
  Texts of the proof of TagsIds, part 1 of 4: contracts and plain laws. Conditions: see each statement.
-/
import Derived.Test.YtjcfjgcnkbbgmaaProg
import Derived.Below
import Derived.Deep.Draws
import Derived.Deep.AppendLies
import Derived.Maps.AppendAt
import Derived.OwnWalk
import Derived.Laws.BytesArg
import Derived.Laws.MakeOwn
import Derived.Laws.OwnMore
import Derived.Deep.OwnRows
import Derived.Tactics
import Derived.Lib.ConvBytes
import Derived.Laws.Slices
import Derived.WalkKit
import Derived.KernelRfl
import Derived.RowKit3
import Derived.Deep.LoopGhost
import Derived.Deep.QuietTactic
import Derived.BigQuiet
import Derived.WideLaws
import Derived.Deep.DeepCutAuto
import Derived.Deep.CutBlock
import Derived.Deep.RegionHeld3
import Derived.Laws.Rows
import Derived.Lib.AppendStr
import Derived.ArgAppend
import Derived.Laws.IdiomCopy
import Derived.OrdersHeld
import Derived.Laws.BitsLemmas
import Derived.RowKit
import Derived.Test.YtjcfjgcnkbbgmaaWWords
import Derived.Test.YtjcfjgcnkbbgmaaWLast
import Derived.Test.YtjcfjgcnkbbgmaaWTab
import Derived.Test.YtjcfjgcnkbbgmaaWFour
import Derived.Test.YtjcfjgcnkbbgmaaWQPut
import Derived.Test.YtjcfjgcnkbbgmaaWApart
import Derived.Test.YtjcfjgcnkbbgmaaWArr
import Derived.Test.YtjcfjgcnkbbgmaaWZeros
import Derived.Test.YtjcfjgcnkbbgmaaWFoot
import Derived.Test.YtjcfjgcnkbbgmaaWKept
import Derived.Test.YtjcfjgcnkbbgmaaWShare
import Derived.Test.YtjcfjgcnkbbgmaaWN
import Derived.Test.YtjcfjgcnkbbgmaaWFootNe
import Derived.Test.YtjcfjgcnkbbgmaaWAt
import Derived.Test.YtjcfjgcnkbbgmaaWEqStruct
import Derived.Test.YtjcfjgcnkbbgmaaWRepsOne
import Derived.Test.YtjcfjgcnkbbgmaaWInv
import Derived.Test.YtjcfjgcnkbbgmaaWInvWords
import Derived.Test.YtjcfjgcnkbbgmaaWGuard
import Derived.Test.YtjcfjgcnkbbgmaaWNEv
import Derived.Test.YtjcfjgcnkbbgmaaWMore
import Derived.Shelf.Strings.SlTrimAscii
import Derived.Shelf.Strings.Builder1
import Derived.Shelf.Small.Utf8
import Derived.Shelf.Small.Strs
import Derived.Shelf.Small.Wraps
import Derived.Shelf.Strings.BuilderF
import Derived.Shelf.Strings.BuilderK
import Derived.Shelf.Strings.Search1
import Derived.Shelf.Strings.Search2
import Derived.Shelf.Strings.Cut
import Derived.Shelf.LaysM
import Derived.Shelf.Strings.Shaped
import Derived.Shelf.Strings.Prefix
import Derived.Shelf.Strings.Runes
import Derived.Shelf.Strings.IndexAny
import Derived.Shelf.Strings.AsciiSet
import Derived.Shelf.Strings.IndexAnyAll
import Derived.Shelf.Lays
import Derived.Test.YtjcfjgcnkbbgmaaRows
import Derived.ProofKit
import Derived.OpenShut
import Derived.ShutString
import Derived.ChangeOld
import Derived.SizedLaws
import Derived.Deep.DeepHandedRow
import Derived.Lib.LaidTab
import Derived.Lib.LaidU8
import Derived.Shelf.Vars
import Derived.Test.YtjcfjgcnkbbgmaaWSized
import Derived.Lib.Strings
import Derived.Shelf.Unicode.DecodeSlow
import Derived.Lib.SplitLaws
import Derived.BigCall
import Derived.Laws.Runes
import Derived.Lib.OthersKept
import Derived.Outline
import Derived.IntWalk
import Derived.Lib.DecodeNEq
set_option linter.unusedVariables false
namespace Go.Proofs.Ytjcfjgcnkbbgmaa.PA
open Go.RowKit Go.Proofs.YtjcfjgcnkbbgmaaW.PrintWords Go.Proofs.YtjcfjgcnkbbgmaaW.PrintLast Go.Proofs.YtjcfjgcnkbbgmaaW.PrintMore
attribute [local go_sem] max2_int min2_int max_two min_two max_three min_three max_four min_four   -- for this text's walks alone
set_option linter.unusedVariables false
set_option linter.unusedSimpArgs false



def errW : Option Int → Value
  | none => .nilIface
  | some c => .iface 0 (.int .i64 c)
theorem errW_none : errW none = .nilIface := rfl
theorem errW_some (c : Int) : errW (some c) = .iface 0 (.int .i64 c) := rfl

theorem info45 : (Try.prog.info? 45).map (fun i => (i.zero, i.size, i.bytes)) = some (some (.agg #[(.string ⟨#[]⟩), (.string ⟨#[]⟩)]), 2, 32) := by kernel_rfl
/-! #### struct type 45 -/
structure S45 where
  f0 : ByteArray
  f1 : ByteArray
def k45 : Kd S45 := Kd.iso (Kd.pair Kd.string Kd.string) (fun x : S45 => (x.f0, x.f1))
theorem k45_open {w : World} {x : S45} {cs : List Value} (h : k45.K w x cs) : cs = [.string x.f0, .string x.f1] := by
  obtain ⟨_, _, rfl, rfl, rfl⟩ := h
  exact rfl
theorem k45_mkM (w : World) (base : Nat) (ok : Nat → Prop) (x : S45)  : k45.M w base ok x [.string x.f0, .string x.f1] := ⟨[.string x.f0], [.string x.f1], rfl, rfl, rfl⟩
end Go.Proofs.Ytjcfjgcnkbbgmaa.PA

set_option linter.unusedVariables false
namespace Go.Proofs
open Go.Shelf
def Try.lays167_ren : Go.Shelf.Ren := ⟨fun | 167 => 34 | 240 => 40 | 276 => 46 | n => n, fun | 0 => 0 | 4 => 4 | 5 => 5 | 9 => 9 | 20 => 20 | 37 => 56 | 70 => 55 | 72 => 58 | 75 => 60 | 80 => 62 | 164 => 71 | n => n, fun | 1 => 0 | n => n⟩
theorem Try.lays167 : Go.Proofs.Lays.n167 Try.prog Try.lays167_ren := {
  mixed := by kernel_rfl,
  f167 := Try.func34.trans (congrArg some (by kernel_rfl)),
  f240 := Try.func40.trans (congrArg some (by kernel_rfl)),
  f276 := Try.func46.trans (congrArg some (by kernel_rfl)),
  t0 := Try.underlying0,
  a0 := Try.isAgg0,
  z0 := Try.sizeOf0,
  v0 := Try.zeroValue0,
  t4 := Try.underlying4,
  a4 := Try.isAgg4,
  z4 := Try.sizeOf4,
  v4 := Try.zeroValue4,
  t5 := Try.underlying5,
  a5 := Try.isAgg5,
  z5 := Try.sizeOf5,
  v5 := Try.zeroValue5,
  t9 := Try.underlying9,
  a9 := Try.isAgg9,
  z9 := Try.sizeOf9,
  v9 := Try.zeroValue9,
  t20 := Try.underlying20,
  a20 := Try.isAgg20,
  z20 := Try.sizeOf20,
  v20 := Try.zeroValue20,
  t37 := Try.underlying56,
  a37 := Try.isAgg56,
  z37 := Try.sizeOf56,
  v37 := Try.zeroValue56,
  t70 := Try.underlying55,
  a70 := Try.isAgg55,
  z70 := Try.sizeOf55,
  v70 := Try.zeroValue55,
  t72 := Try.underlying58,
  a72 := Try.isAgg58,
  z72 := Try.sizeOf58,
  v72 := Try.zeroValue58,
  t75 := Try.underlying60,
  a75 := Try.isAgg60,
  z75 := Try.sizeOf60,
  v75 := Try.zeroValue60,
  t164 := Try.underlying71,
  a164 := Try.isAgg71,
  z164 := Try.sizeOf71,
  v164 := Try.zeroValue71 }
theorem Try.Builder_Extra_167 : Builder.Extra Try.prog Try.lays167_ren := {
  sizeBuilder := by kernel_rfl,
  liesBuilder := by kernel_rfl,
  t5 := Try.underlying5,
  a5 := Try.isAgg5,
  z5 := Try.sizeOf5,
  v5 := Try.zeroValue5,
  infoByte := by kernel_rfl,
  cellsByte := by kernel_rfl,
  sizeByte := by kernel_rfl,
  neB5 := by decide }
open Go.RowKit in
theorem Try.Builder_WriteByte (B b : Nat) (bs : List Value) (c : Int) (w : World) (h : Lib.IsBuilder 58 5 B b bs w) (hlen : bs.length + 1 ≤ 140737488355328) (hBw : B ≤ w.heap.size) :
    Calls Try.prog 34 #[.pointer (some ⟨b, 0, none⟩), .int .u8 c] w fun e w' => e = .returned .nilIface ∧ (Lib.BuilderAt 58 5 B b (.pointer (some ⟨b, 0, none⟩)) (bs ++ [.int .u8 c]) w' ∧ Below B w w') := Any.Builder_WriteByte Try.lays167 Try.Builder_Extra_167 B b bs c w h hlen hBw
def Try.lays169_ren : Go.Shelf.Ren := ⟨fun | 169 => 35 | n => n, fun | 0 => 0 | 3 => 3 | 5 => 5 | 9 => 9 | 37 => 56 | 70 => 55 | 72 => 58 | 127 => 68 | n => n, fun | 1 => 0 | n => n⟩
theorem Try.lays169 : Go.Proofs.Lays.n169 Try.prog Try.lays169_ren := {
  mixed := by kernel_rfl,
  f169 := Try.func35.trans (congrArg some (by kernel_rfl)),
  t0 := Try.underlying0,
  a0 := Try.isAgg0,
  z0 := Try.sizeOf0,
  v0 := Try.zeroValue0,
  t3 := Try.underlying3,
  a3 := Try.isAgg3,
  z3 := Try.sizeOf3,
  v3 := Try.zeroValue3,
  t9 := Try.underlying9,
  a9 := Try.isAgg9,
  z9 := Try.sizeOf9,
  v9 := Try.zeroValue9,
  t37 := Try.underlying56,
  a37 := Try.isAgg56,
  z37 := Try.sizeOf56,
  v37 := Try.zeroValue56,
  t70 := Try.underlying55,
  a70 := Try.isAgg55,
  z70 := Try.sizeOf55,
  v70 := Try.zeroValue55,
  t72 := Try.underlying58,
  a72 := Try.isAgg58,
  z72 := Try.sizeOf58,
  v72 := Try.zeroValue58,
  t127 := Try.underlying68,
  a127 := Try.isAgg68,
  z127 := Try.sizeOf68,
  v127 := Try.zeroValue68 }
theorem Try.Builder_Extra_169 : Builder.Extra Try.prog Try.lays169_ren := {
  sizeBuilder := by kernel_rfl,
  liesBuilder := by kernel_rfl,
  t5 := Try.underlying5,
  a5 := Try.isAgg5,
  z5 := Try.sizeOf5,
  v5 := Try.zeroValue5,
  infoByte := by kernel_rfl,
  cellsByte := by kernel_rfl,
  sizeByte := by kernel_rfl,
  neB5 := by decide }
open Go.RowKit in
theorem Try.Builder_String_any (B b : Nat) (l : List UInt8) (w : World) (h : Lib.IsBuilder 58 5 B b (Lib.byteCells l) w) (hBw : B ≤ w.heap.size) :
    Calls Try.prog 35 #[.pointer (some ⟨b, 0, none⟩)] w fun e w' => e = .returned (.string ⟨l.toArray⟩) ∧ Below B w w' := Any.Builder_String_any Try.lays169 Try.Builder_Extra_169 B b l w h hBw
def Try.lays119_ren : Go.Shelf.Ren := ⟨fun | 119 => 60 | n => n, fun | 4 => 4 | 21 => 21 | n => n, fun | 1 => 0 | n => n⟩
theorem Try.lays119 : Go.Proofs.Lays.n119 Try.prog Try.lays119_ren := {
  mixed := by kernel_rfl,
  f119 := Try.func60.trans (congrArg some (by kernel_rfl)),
  t4 := Try.underlying4,
  a4 := Try.isAgg4,
  z4 := Try.sizeOf4,
  v4 := Try.zeroValue4,
  t21 := Try.underlying21,
  a21 := Try.isAgg21,
  z21 := Try.sizeOf21,
  v21 := Try.zeroValue21 }
theorem Try.utf8_ValidRune (r : Int) (w : World) :
    Calls Try.prog 60 #[.int .i32 r] w fun e w' => e = .returned (.bool (Lib.validRune r)) ∧ w' = w := Any.utf8_ValidRune Try.lays119 r w
def Try.lays137_ren : Go.Shelf.Ren := ⟨fun | 137 => 59 | 217 => 55 | 266 => 61 | n => n, fun | 3 => 3 | 5 => 5 | 9 => 9 | n => n, fun | 1 => 0 | n => n⟩
theorem Try.lays137 : Go.Proofs.Lays.n137 Try.prog Try.lays137_ren := {
  mixed := by kernel_rfl,
  f137 := Try.func59.trans (congrArg some (by kernel_rfl)),
  f217 := Try.func55.trans (congrArg some (by kernel_rfl)),
  f266 := Try.func61.trans (congrArg some (by kernel_rfl)),
  t3 := Try.underlying3,
  a3 := Try.isAgg3,
  z3 := Try.sizeOf3,
  v3 := Try.zeroValue3,
  t5 := Try.underlying5,
  a5 := Try.isAgg5,
  z5 := Try.sizeOf5,
  v5 := Try.zeroValue5,
  t9 := Try.underlying9,
  a9 := Try.isAgg9,
  z9 := Try.sizeOf9,
  v9 := Try.zeroValue9 }
open Go.RowKit in
theorem Try.strings_IndexByte (s : ByteArray) (c : Int) (w : World) :
    Calls Try.prog 59 #[.string s, .int .u8 c] w fun e w' => e = .returned (.int .i64 (Lib.indexByte s.data.toList c.toNat.toUInt8)) ∧ w' = w := Any.strings_IndexByte Try.lays137 s c w
def Try.lays103_ren : Go.Shelf.Ren := ⟨fun | 103 => 19 | 206 => 41 | 210 => 36 | n => n, fun | 3 => 3 | 4 => 4 | 9 => 9 | 24 => 39 | n => n, fun | 1 => 0 | n => n⟩
theorem Try.lays103 : Go.Proofs.Lays.n103 Try.prog Try.lays103_ren := {
  mixed := by kernel_rfl,
  f103 := Try.func19.trans (congrArg some (by kernel_rfl)),
  f206 := Try.func41.trans (congrArg some (by kernel_rfl)),
  f210 := Try.func36.trans (congrArg some (by kernel_rfl)),
  t3 := Try.underlying3,
  a3 := Try.isAgg3,
  z3 := Try.sizeOf3,
  v3 := Try.zeroValue3,
  t4 := Try.underlying4,
  a4 := Try.isAgg4,
  z4 := Try.sizeOf4,
  v4 := Try.zeroValue4,
  t9 := Try.underlying9,
  a9 := Try.isAgg9,
  z9 := Try.sizeOf9,
  v9 := Try.zeroValue9,
  t24 := Try.underlying39,
  a24 := Try.isAgg39,
  z24 := Try.sizeOf39,
  v24 := Try.zeroValue39 }
open Go.RowKit in
theorem Try.strings_CutPrefix (s p : ByteArray) (w : World) :
    Calls Try.prog 19 #[.string s, .string p] w fun e w' => e = .returned (.tuple #[.string ⟨(Lib.trimPrefix s.data.toList p.data.toList).toArray⟩, .bool (Lib.hasPrefix s.data.toList p.data.toList)]) ∧ w' = w := Any.strings_CutPrefix Try.lays103 s p w
def Try.lays145_ren : Go.Shelf.Ren := ⟨fun | 145 => 44 | 217 => 55 | 219 => 50 | 220 => 48 | 224 => 57 | 225 => 56 | 266 => 61 | 267 => 58 | 314 => 62 | n => n, fun | 3 => 3 | 4 => 4 | 5 => 5 | 9 => 9 | 46 => 82 | 51 => 85 | 59 => 69 | 146 => 86 | n => n, fun | 1 => 0 | n => n⟩
theorem Try.lays145 : Go.Proofs.Lays.n145 Try.prog Try.lays145_ren := {
  mixed := by kernel_rfl,
  f145 := Try.func44.trans (congrArg some (by kernel_rfl)),
  f217 := Try.func55.trans (congrArg some (by kernel_rfl)),
  f219 := Try.func50.trans (congrArg some (by kernel_rfl)),
  f220 := Try.func48.trans (congrArg some (by kernel_rfl)),
  f224 := Try.func57.trans (congrArg some (by kernel_rfl)),
  f225 := Try.func56.trans (congrArg some (by kernel_rfl)),
  f266 := Try.func61.trans (congrArg some (by kernel_rfl)),
  f267 := Try.func58.trans (congrArg some (by kernel_rfl)),
  f314 := Try.func62.trans (congrArg some (by kernel_rfl)),
  t3 := Try.underlying3,
  a3 := Try.isAgg3,
  z3 := Try.sizeOf3,
  v3 := Try.zeroValue3,
  t4 := Try.underlying4,
  a4 := Try.isAgg4,
  z4 := Try.sizeOf4,
  v4 := Try.zeroValue4,
  t5 := Try.underlying5,
  a5 := Try.isAgg5,
  z5 := Try.sizeOf5,
  v5 := Try.zeroValue5,
  t9 := Try.underlying9,
  a9 := Try.isAgg9,
  z9 := Try.sizeOf9,
  v9 := Try.zeroValue9,
  t46 := Try.underlying82,
  a46 := Try.isAgg82,
  z46 := Try.sizeOf82,
  v46 := Try.zeroValue82,
  t51 := Try.underlying85,
  a51 := Try.isAgg85,
  z51 := Try.sizeOf85,
  v51 := Try.zeroValue85,
  t59 := Try.underlying69,
  a59 := Try.isAgg69,
  z59 := Try.sizeOf69,
  v59 := Try.zeroValue69,
  t146 := Try.underlying86,
  a146 := Try.isAgg86,
  z146 := Try.sizeOf86,
  v146 := Try.zeroValue86,
  g1 := by kernel_rfl }
open Go.RowKit Go.Lib in
theorem Try.strings_Cut (s sep : ByteArray) (m : Int) (w : World) (hs : s.size < 4294967281) (hm : w.cell? ⟨0, 0, none⟩ = some (.int .i64 m)) :
    Calls Try.prog 44 #[.string s, .string sep] w fun e w' => e = .returned (.tuple #[.string ⟨(Lib.cut s.data.toList sep.data.toList).1.toArray⟩, .string ⟨(Lib.cut s.data.toList sep.data.toList).2.1.toArray⟩, .bool (Lib.cut s.data.toList sep.data.toList).2.2]) ∧ ∃ n, w' = w.drewN n := Any.strings_Cut Try.lays145 s sep m w hs hm
def Try.lays152_ren : Go.Shelf.Ren := ⟨fun | 119 => 60 | 137 => 59 | 152 => 51 | 217 => 55 | 224 => 57 | 225 => 56 | 266 => 61 | n => n, fun | 0 => 0 | 3 => 3 | 4 => 4 | 5 => 5 | 9 => 9 | 21 => 21 | 46 => 82 | n => n, fun | 1 => 0 | n => n⟩
theorem Try.lays152 : Go.Proofs.Lays.n152 Try.prog Try.lays152_ren := {
  mixed := by kernel_rfl,
  f119 := Try.func60.trans (congrArg some (by kernel_rfl)),
  f137 := Try.func59.trans (congrArg some (by kernel_rfl)),
  f152 := Try.func51.trans (congrArg some (by kernel_rfl)),
  f217 := Try.func55.trans (congrArg some (by kernel_rfl)),
  f224 := Try.func57.trans (congrArg some (by kernel_rfl)),
  f225 := Try.func56.trans (congrArg some (by kernel_rfl)),
  f266 := Try.func61.trans (congrArg some (by kernel_rfl)),
  t0 := Try.underlying0,
  a0 := Try.isAgg0,
  z0 := Try.sizeOf0,
  v0 := Try.zeroValue0,
  t3 := Try.underlying3,
  a3 := Try.isAgg3,
  z3 := Try.sizeOf3,
  v3 := Try.zeroValue3,
  t4 := Try.underlying4,
  a4 := Try.isAgg4,
  z4 := Try.sizeOf4,
  v4 := Try.zeroValue4,
  t5 := Try.underlying5,
  a5 := Try.isAgg5,
  z5 := Try.sizeOf5,
  v5 := Try.zeroValue5,
  t9 := Try.underlying9,
  a9 := Try.isAgg9,
  z9 := Try.sizeOf9,
  v9 := Try.zeroValue9,
  t21 := Try.underlying21,
  a21 := Try.isAgg21,
  z21 := Try.sizeOf21,
  v21 := Try.zeroValue21,
  t46 := Try.underlying82,
  a46 := Try.isAgg82,
  z46 := Try.sizeOf82,
  v46 := Try.zeroValue82 }
open Go.RowKit Go.Lib in
theorem Try.strings_IndexRune_ascii (s : ByteArray) (r : Int) (w : World) (h0 : 0 ≤ r) (h1 : r < 128) :
    Calls Try.prog 51 #[.string s, .int .i32 r] w fun e w' => e = .returned (.int .i64 (Lib.indexByte s.data.toList r.toNat.toUInt8)) ∧ w' = w := Any.strings_IndexRune_ascii Try.lays152 s r w h0 h1
def Try.lays226_ren : Go.Shelf.Ren := ⟨fun | 226 => 52 | n => n, fun | 3 => 3 | 4 => 4 | n => n, fun | 1 => 0 | n => n⟩
theorem Try.lays226 : Go.Proofs.Lays.n226 Try.prog Try.lays226_ren := {
  mixed := by kernel_rfl,
  f226 := Try.func52.trans (congrArg some (by kernel_rfl)),
  t3 := Try.underlying3,
  a3 := Try.isAgg3,
  z3 := Try.sizeOf3,
  v3 := Try.zeroValue3,
  t4 := Try.underlying4,
  a4 := Try.isAgg4,
  z4 := Try.sizeOf4,
  v4 := Try.zeroValue4 }
open Go.RowKit Go.Lib in
theorem Try.strings_shouldUseASCIISet (n : Int) (w : World) :
    Calls Try.prog 52 #[.int .i64 n] w fun e w' => e = .returned (.bool (decide (8 < n))) ∧ w' = w := Any.strings_shouldUseASCIISet Try.lays226 n w
def Try.lays153_ren : Go.Shelf.Ren := ⟨fun | 119 => 60 | 137 => 59 | 152 => 51 | 153 => 49 | 217 => 55 | 224 => 57 | 225 => 56 | 226 => 52 | 227 => 53 | 228 => 54 | 266 => 61 | n => n, fun | 0 => 0 | 3 => 3 | 4 => 4 | 5 => 5 | 9 => 9 | 21 => 21 | 46 => 82 | 116 => 77 | 117 => 78 | 124 => 84 | n => n, fun | 1 => 0 | n => n⟩
theorem Try.lays153 : Go.Proofs.Lays.n153 Try.prog Try.lays153_ren := {
  mixed := by kernel_rfl,
  f119 := Try.func60.trans (congrArg some (by kernel_rfl)),
  f137 := Try.func59.trans (congrArg some (by kernel_rfl)),
  f152 := Try.func51.trans (congrArg some (by kernel_rfl)),
  f153 := Try.func49.trans (congrArg some (by kernel_rfl)),
  f217 := Try.func55.trans (congrArg some (by kernel_rfl)),
  f224 := Try.func57.trans (congrArg some (by kernel_rfl)),
  f225 := Try.func56.trans (congrArg some (by kernel_rfl)),
  f226 := Try.func52.trans (congrArg some (by kernel_rfl)),
  f227 := Try.func53.trans (congrArg some (by kernel_rfl)),
  f228 := Try.func54.trans (congrArg some (by kernel_rfl)),
  f266 := Try.func61.trans (congrArg some (by kernel_rfl)),
  t0 := Try.underlying0,
  a0 := Try.isAgg0,
  z0 := Try.sizeOf0,
  v0 := Try.zeroValue0,
  t3 := Try.underlying3,
  a3 := Try.isAgg3,
  z3 := Try.sizeOf3,
  v3 := Try.zeroValue3,
  t4 := Try.underlying4,
  a4 := Try.isAgg4,
  z4 := Try.sizeOf4,
  v4 := Try.zeroValue4,
  t5 := Try.underlying5,
  a5 := Try.isAgg5,
  z5 := Try.sizeOf5,
  v5 := Try.zeroValue5,
  t9 := Try.underlying9,
  a9 := Try.isAgg9,
  z9 := Try.sizeOf9,
  v9 := Try.zeroValue9,
  t21 := Try.underlying21,
  a21 := Try.isAgg21,
  z21 := Try.sizeOf21,
  v21 := Try.zeroValue21,
  t46 := Try.underlying82,
  a46 := Try.isAgg82,
  z46 := Try.sizeOf82,
  v46 := Try.zeroValue82,
  t116 := Try.underlying77,
  a116 := Try.isAgg77,
  z116 := Try.sizeOf77,
  t117 := Try.underlying78,
  a117 := Try.isAgg78,
  z117 := Try.sizeOf78,
  v117 := Try.zeroValue78,
  t124 := Try.underlying84,
  a124 := Try.isAgg84,
  z124 := Try.sizeOf84,
  v124 := Try.zeroValue84 }
open Go.RowKit Go.Lib in
theorem Try.strings_IndexAny_long (hv116 : ∀ w, (zeroValue 77).run Try.prog w = .ok (.agg (Array.replicate 256 (.bool false))) w) (s chars : ByteArray) (w : World) (h2 : 2 ≤ chars.size) (h8 : 8 < s.size) (hs : s.size < 4294967281) (hcs : chars.size < 4294967281) (hascii : ∀ (j : Nat) b, chars.data.toList[j]? = some b → b.toNat < 128) :
    Calls Try.prog 49 #[.string s, .string chars] w fun e w' => e = .returned (.int .i64 (Lib.indexAny s.data.toList chars.data.toList)) ∧ w' = ((w.alloc (.cells (Lib.setCells chars.data.toList) 77)).alloc (.cells (Lib.setCells chars.data.toList) 77)) := Any.strings_IndexAny_long Try.lays153 hv116 (by kernel_rfl) s chars w h2 h8 hs hcs hascii
open Go.RowKit Go.Lib in
theorem Try.strings_IndexAny (hv116 : ∀ w, (zeroValue 77).run Try.prog w = .ok (.agg (Array.replicate 256 (.bool false))) w) (s chars : ByteArray) (w : World) (hs : s.size < 4294967281) (hcs : chars.size < 4294967281) (has : ∀ (j : Nat) b, s.data.toList[j]? = some b → b.toNat < 128) (hac : ∀ (j : Nat) b, chars.data.toList[j]? = some b → b.toNat < 128) :
    Calls Try.prog 49 #[.string s, .string chars] w fun e w' => e = .returned (.int .i64 (Lib.indexAny s.data.toList chars.data.toList)) ∧ Below w.heap.size w w' := Any.strings_IndexAny Try.lays153 hv116 (by kernel_rfl) s chars w hs hcs has hac
def Try.lays150_ren : Go.Shelf.Ren := ⟨fun | 119 => 60 | 137 => 59 | 150 => 45 | 152 => 51 | 153 => 49 | 217 => 55 | 224 => 57 | 225 => 56 | 226 => 52 | 227 => 53 | 228 => 54 | 266 => 61 | n => n, fun | 0 => 0 | 3 => 3 | 4 => 4 | 5 => 5 | 9 => 9 | 21 => 21 | 46 => 82 | 116 => 77 | 117 => 78 | 124 => 84 | n => n, fun | 1 => 0 | n => n⟩
theorem Try.lays150 : Go.Proofs.Lays.n150 Try.prog Try.lays150_ren := {
  mixed := by kernel_rfl,
  f119 := Try.func60.trans (congrArg some (by kernel_rfl)),
  f137 := Try.func59.trans (congrArg some (by kernel_rfl)),
  f150 := Try.func45.trans (congrArg some (by kernel_rfl)),
  f152 := Try.func51.trans (congrArg some (by kernel_rfl)),
  f153 := Try.func49.trans (congrArg some (by kernel_rfl)),
  f217 := Try.func55.trans (congrArg some (by kernel_rfl)),
  f224 := Try.func57.trans (congrArg some (by kernel_rfl)),
  f225 := Try.func56.trans (congrArg some (by kernel_rfl)),
  f226 := Try.func52.trans (congrArg some (by kernel_rfl)),
  f227 := Try.func53.trans (congrArg some (by kernel_rfl)),
  f228 := Try.func54.trans (congrArg some (by kernel_rfl)),
  f266 := Try.func61.trans (congrArg some (by kernel_rfl)),
  t0 := Try.underlying0,
  a0 := Try.isAgg0,
  z0 := Try.sizeOf0,
  v0 := Try.zeroValue0,
  t3 := Try.underlying3,
  a3 := Try.isAgg3,
  z3 := Try.sizeOf3,
  v3 := Try.zeroValue3,
  t4 := Try.underlying4,
  a4 := Try.isAgg4,
  z4 := Try.sizeOf4,
  v4 := Try.zeroValue4,
  t5 := Try.underlying5,
  a5 := Try.isAgg5,
  z5 := Try.sizeOf5,
  v5 := Try.zeroValue5,
  t9 := Try.underlying9,
  a9 := Try.isAgg9,
  z9 := Try.sizeOf9,
  v9 := Try.zeroValue9,
  t21 := Try.underlying21,
  a21 := Try.isAgg21,
  z21 := Try.sizeOf21,
  v21 := Try.zeroValue21,
  t46 := Try.underlying82,
  a46 := Try.isAgg82,
  z46 := Try.sizeOf82,
  v46 := Try.zeroValue82,
  t116 := Try.underlying77,
  a116 := Try.isAgg77,
  z116 := Try.sizeOf77,
  t117 := Try.underlying78,
  a117 := Try.isAgg78,
  z117 := Try.sizeOf78,
  v117 := Try.zeroValue78,
  t124 := Try.underlying84,
  a124 := Try.isAgg84,
  z124 := Try.sizeOf84,
  v124 := Try.zeroValue84 }
open Go.RowKit Go.Lib in
theorem Try.strings_ContainsAny (hv116 : ∀ w, (zeroValue 77).run Try.prog w = .ok (.agg (Array.replicate 256 (.bool false))) w) (s chars : ByteArray) (w : World) (hs : s.size < 4294967281) (hcs : chars.size < 4294967281) (has : ∀ (j : Nat) b, s.data.toList[j]? = some b → b.toNat < 128) (hac : ∀ (j : Nat) b, chars.data.toList[j]? = some b → b.toNat < 128) :
    Calls Try.prog 45 #[.string s, .string chars] w fun e w' => e = .returned (.bool (Lib.containsAny s.data.toList chars.data.toList)) ∧ Below w.heap.size w w' := Any.strings_ContainsAny Try.lays150 hv116 (by kernel_rfl) s chars w hs hcs has hac
end Go.Proofs

namespace Go.Proofs.Ytjcfjgcnkbbgmaa.PA
open Go.RowKit Go.Proofs.YtjcfjgcnkbbgmaaW.PrintWords

theorem ex_then_ret {next : Act → World → Prop} {Q : Exit → Act → World → Prop} {a : Act} {w : World} (h : Q Exit.ret a w) : Exit.then next Q Exit.ret a w := h
theorem ex_block_ret {id : Nat} {Q : Exit → Act → World → Prop} {a : Act} {w : World} (h : Q Exit.ret a w) : Exit.inBlock id Q Exit.ret a w := h
theorem ex_noGoto_ret {Q : Exit → Act → World → Prop} {a : Act} {w : World} (h : Q Exit.ret a w) : Exit.noGoto Q Exit.ret a w := h
theorem szw {p n q : Nat} {m : Int} (h : ¬ 9223372036854775807 < p + n + q) (h0 : 0 ≤ m) (hm : m ≤ ((p + q : Nat) : Int)) : wrap64 ((n : Int) + m) = (n : Int) + m := by unfold wrap64; omega
theorem retEq {x a b : Int} (h : b = a) : Ending.returned (Value.bool (x == a)) = Ending.returned (Value.bool (x == b)) := by rw [h]
theorem retNe (l : List UInt8) : Ending.returned (Value.bool (!l.isEmpty)) = Ending.returned (Value.bool (l != ([] : List UInt8))) := by cases l <;> rfl
/-- internal/bytealg.MaxLen holds a whole number. -/
structure Laid (w : World) : Prop where
  ml : ∃ m : Int, w.cell? ⟨0, 0, none⟩ = some (.int .i64 m)
  size : 0 < w.heap.size
theorem Laid.go {w W : World} (h : Laid w) (hb : Below w.heap.size w W) : Laid W := by
  obtain ⟨m, hm⟩ := h.ml
  refine ⟨⟨m, ?_⟩, by have := h.size; have := hb.size; omega⟩
  rw [← hm]
  exact hb.cell (by have := h.size; show 0 < w.heap.size; omega)
end Go.Proofs.Ytjcfjgcnkbbgmaa.PA

namespace Go.Proofs.Ytjcfjgcnkbbgmaa.RowU8
open Go.ChangeShapes Go.WideShapes Go.ChangeAt Go.RowKit Go.Lib

theorem own : ownKnob Try.prog.godebug = none := by kernel_rfl
theorem laidOf {W : World} (h : W.ShapedOpen Try.prog) : PA.Laid W := by
  have hm : ∃ m : Int, W.cell? ⟨0, 0, none⟩ = some (.int .i64 m) :=
    cell_of_shapedOpen_int (t := 3) (zero := #[.int .i64 0]) h (of_decide_eq_true (by kernel_rfl)) (by kernel_rfl) rfl (by kernel_rfl) (by kernel_rfl) Try.underlying3
  obtain ⟨m, hm'⟩ := hm
  refine ⟨⟨m, hm'⟩, ?_⟩
  rcases Nat.lt_or_ge 0 W.heap.size with h' | h'
  · exact h'
  · simp [World.cell?, Array.getElem?_eq_none h'] at hm'
/-- A world for the witness: the settled one. -/
noncomputable def laidWorld (os : Os) : World := World.holding Try.prog os ⟨#[], #[], []⟩
end Go.Proofs.Ytjcfjgcnkbbgmaa.RowU8

namespace Go.Proofs.Ytjcfjgcnkbbgmaa.Pl
open Go.RowKit Go.Proofs.YtjcfjgcnkbbgmaaW.PrintWords

/-- A list of bytes as a text. -/
def B (l : List UInt8) : ByteArray := ⟨l.toArray⟩
theorem B_eta (a : ByteArray) : B a.data.toList = a := rfl
theorem B_data (l : List UInt8) : (B l).data.toList = l := by simp [B]
theorem B_toList (l : List UInt8) : (B l).toList = l := by rw [Lib.toList_data, B_data]
theorem B_size (l : List UInt8) : (B l).size = l.length := by show l.toArray.size = _; simp
theorem B_ext {a b : ByteArray} (h : a.data.toList = b.data.toList) : a = b := by rw [← B_eta a, ← B_eta b, h]
theorem B_append (l m : List UInt8) : B l ++ B m = B (l ++ m) := by
  apply B_ext
  rw [B_data, ByteArray.data_append, Array.toList_append, B_data, B_data]
theorem B_extract (l : List UInt8) (i j : Nat) : (B l).extract i j = B ((l.drop i).take (j - i)) := by
  apply B_ext
  rw [B_data, Lib.extract_data, B_data]
theorem B_from (l : List UInt8) (i n : Nat) (h : n = l.length) : (B l).extract i n = B (l.drop i) := by
  rw [B_extract, List.take_of_length_le (by simp; omega)]
theorem B_to (l : List UInt8) (j : Nat) : (B l).extract 0 j = B (l.take j) := by rw [B_extract, List.drop_zero, Nat.sub_zero]
theorem B_bt (l : List UInt8) (i : Nat) (h : i < l.length) : bt (B l) (i : Int) = ((l[i]'h).toNat : Int) := by
  unfold bt
  have hs := B_size l
  rw [dif_pos (by rw [Int.toNat_natCast]; omega)]
  have : (B l)[(i : Int).toNat]'(by rw [Int.toNat_natCast]; omega) = l[i]'h := by
    show (B l).data[(i : Int).toNat] = _
    simp [B]
  rw [this]
theorem w64 {x : Int} (h0 : -9223372036854775808 ≤ x) (h1 : x ≤ 9223372036854775807) : wrap64 x = x := by unfold wrap64; omega
theorem u8_eq (x : UInt8) (n : Nat) (h : n < 256) : ((x.toNat : Int) = (n : Int)) ↔ x = UInt8.ofNat n := by
  constructor
  · intro e
    apply UInt8.toNat_inj.1
    rw [UInt8.toNat_ofNat']
    omega
  · intro e
    subst e
    rw [UInt8.toNat_ofNat']
    omega
end Go.Proofs.Ytjcfjgcnkbbgmaa.Pl

namespace Go.Proofs.Ytjcfjgcnkbbgmaa.PA
open Go.RowKit Go.Proofs.YtjcfjgcnkbbgmaaW.PrintWords

def strings_CutPrefix.f (a0 : ByteArray) (a1 : ByteArray) : Option (ByteArray × Bool) := some (⟨(Lib.trimPrefix a0.data.toList a1.data.toList).toArray⟩, Lib.hasPrefix a0.data.toList a1.data.toList)
theorem strings_CutPrefix.calls (a0 : ByteArray) (a1 : ByteArray) (r1 : ByteArray) (r2 : Bool) (w : World) (h : strings_CutPrefix.f a0 a1 = some (r1, r2)) :
    Calls Try.prog 19 #[.string a0, .string a1] w fun e w' => e = .returned (.tuple #[.string r1, .bool r2]) ∧ Drawn0 w w' := by
  unfold strings_CutPrefix.f at h
  have h2 := Option.some.inj h
  obtain ⟨rfl, rfl⟩ := Prod.mk.inj h2
  refine (Try.strings_CutPrefix a0 a1 w).mono ?_
  rintro e w' ⟨rfl, rfl⟩
  exact ⟨rfl, Drawn0.refl _⟩
def strings_Cut.f (a0 : ByteArray) (a1 : ByteArray) : Option (ByteArray × ByteArray × Bool) := if a0.size ≤ 4294967280 then some (⟨(Lib.cut a0.data.toList a1.data.toList).1.toArray⟩, ⟨(Lib.cut a0.data.toList a1.data.toList).2.1.toArray⟩, (Lib.cut a0.data.toList a1.data.toList).2.2) else none
theorem strings_Cut.calls (a0 : ByteArray) (a1 : ByteArray) (r1 : ByteArray) (r2 : ByteArray) (r3 : Bool) (w : World) (hLd : Laid w) (h : strings_Cut.f a0 a1 = some (r1, r2, r3)) :
    Calls Try.prog 44 #[.string a0, .string a1] w fun e w' => e = .returned (.tuple #[.string r1, .string r2, .bool r3]) ∧ Below w.heap.size w w' := by
  unfold strings_Cut.f at h
  split at h
  · rename_i hc
    have h2 := Option.some.inj h
    simp only [Prod.mk.injEq] at h2; obtain ⟨rfl, rfl, rfl⟩ := h2
    obtain ⟨m, hm⟩ := hLd.ml
    refine (Try.strings_Cut a0 a1 m w (by omega) hm).mono ?_
    rintro e w' ⟨rfl, n, rfl⟩
    exact ⟨rfl, pw_below_drewN (Below.refl _ _) n⟩
  · cases h
end Go.Proofs.Ytjcfjgcnkbbgmaa.PA

namespace Go.Proofs.Ytjcfjgcnkbbgmaa.PA
open Go.RowKit Go.Proofs.YtjcfjgcnkbbgmaaW.PrintWords Go.Proofs.YtjcfjgcnkbbgmaaW.PrintLast Go.Proofs.YtjcfjgcnkbbgmaaW.PrintMore
set_option linter.unusedVariables false

theorem ia_data (s : ByteArray) (i : Nat) (hi : i < s.size) : s.data.toList[i]? = some (s[i]'hi) := Lib.data_getElem? s i hi

set_option maxHeartbeats 1000000 in
set_option maxRecDepth 100000 in
theorem ia_bad (s : ByteArray) (w : World) (hs : s.size ≤ 4294967280) (ha : ∀ (j : Nat) b, s.data.toList[j]? = some b → b.toNat < 128) :
    Calls Try.prog 51 #[.string s, .int .i32 65533] w fun e w' => e = .returned (.int .i64 (-1)) ∧ Below w.heap.size w w' := by
  have HA := Aside0.mk ha
  clear ha
  go_enter Try.func51, Try.ntmps51
  go_wp2
  go_loopg [5, 6] s.size (fun g _ _ wx => ∃ i : Nat, i + g = s.size ∧ wx = w.iter s i)
  case atStart => exact ⟨0, by omega, rfl⟩
  case round =>
    obtain ⟨i, hig, rfl⟩ := hrel
    cases gk with
    | zero =>
      obtain rfl : i = s.size := by omega
      have hnx := run_next_end (P := Try.prog) w s s.size
      go_wp2
      go_ret
      exact ⟨rfl, (Below.refl _ w).alloc (Nat.le_refl _) _⟩
    | succ g =>
      have hi : i < s.size := by omega
      obtain ⟨x, hx⟩ : ∃ x : UInt8, s[i]'hi = x := ⟨_, rfl⟩
      have hx128 : x.toNat < 128 := HA.out i x (by rw [← hx]; exact ia_data s i hi)
      have hnx := fun ty => run_next_ascii (P := Try.prog) w s i ty hi (by rw [hx]; exact hx128)
      rw [hx] at hnx
      clear hx
      have hne : ((x.toNat : Int) == 65533) = false := beq_eq_false_iff_ne.2 (by omega)
      go_wp2
      go_roundg g
      case measure => omega
      case rel => exact ⟨i + 1, by omega, rfl⟩

theorem ia_none (l : List UInt8) (c : UInt8) (ha : ∀ (j : Nat) b, l[j]? = some b → b.toNat < 128) (hc : 128 ≤ c.toNat) : Lib.indexByte l c = -1 := by
  induction l with
  | nil => rfl
  | cons b l ih =>
    have h0 : b.toNat < 128 := ha 0 b rfl
    have hb : (b == c) = false := beq_eq_false_iff_ne.2 (fun e => by rw [e] at h0; omega)
    have := ih (fun j x hj => ha (j + 1) x hj)
    simp [Lib.indexByte, hb, this]

set_option maxHeartbeats 1000000 in
set_option maxRecDepth 100000 in
theorem ia_ill (s : ByteArray) (r : Int) (w : World) (h0 : 128 ≤ r) (h1 : r ≤ 1114111) (hv : Lib.validRune r = false) :
    Calls Try.prog 51 #[.string s, .int .i32 r] w fun e w' => e = .returned (.int .i64 (-1)) ∧ Below w.heap.size w w' := by
  have hne : (r == 65533) = false := beq_eq_false_iff_ne.2 (fun e => by subst e; simp [Lib.validRune] at hv)
  have h2 : decide (r < 128) = false := decide_eq_false (by omega)
  have h3 : decide (0 ≤ r) = true := decide_eq_true (by omega)
  go_enter Try.func51, Try.ntmps51
  go_wp2_with (go_at_call 60; refine (Try.utf8_ValidRune _ _).mono ?_; rintro e w' ⟨rfl, hw⟩; rw [hw, hv])
  go_ret
  exact ⟨rfl, Below.refl _ w⟩

set_option maxHeartbeats 1000000 in
set_option maxRecDepth 100000 in
theorem ia_hi (s : ByteArray) (r : Int) (w : World) (hs : s.size ≤ 4294967280) (h0 : 128 ≤ r) (h1 : r ≤ 1114111) (hv : Lib.validRune r = true) (hr : r ≠ 65533) (ha : ∀ (j : Nat) b, s.data.toList[j]? = some b → b.toNat < 128) :
    Calls Try.prog 51 #[.string s, .int .i32 r] w fun e w' => e = .returned (.int .i64 (-1)) ∧ Below w.heap.size w w' := by
  have hne : (r == 65533) = false := beq_eq_false_iff_ne.2 hr
  have h2 : decide (r < 128) = false := decide_eq_false (by omega)
  have h3 : decide (0 ≤ r) = true := decide_eq_true (by omega)
  have hvv : Utf8.valid r = true := by
    unfold Lib.validRune at hv
    unfold Utf8.valid
    simp at hv ⊢
    omega
  obtain ⟨e1, e2, e3⟩ := encode_facts r hvv h0
  clear hvv
  have HA := Aside0.mk ha
  clear ha hr
  obtain ⟨rs, hrs⟩ : ∃ rs, Utf8.encode r = rs := ⟨_, rfl⟩
  rw [hrs] at e1 e2 e3
  obtain ⟨n, hn⟩ : ∃ n, rs.size = n + 1 := ⟨rs.size - 1, by omega⟩
  have e4 : ∀ h : n < rs.size, 128 ≤ (rs[n]'h).toNat := by
    intro h
    have h' : rs.size - 1 < rs.size := by omega
    have := e3 h'
    simp only [show rs.size - 1 = n from by omega] at this
    exact this
  have E4 := Aside0.mk e4
  clear e3 e4
  go_enter Try.func51, Try.ntmps51
  go_wp2_with (go_at_call 60; refine (Try.utf8_ValidRune _ _).mono ?_; rintro e w' ⟨rfl, hw⟩; rw [hw, hv])
  subst hw
  go_step3
  go_wp2
  go_loopg [9, 10] 0 (fun g v9 v10 wx => v9 = .int .i64 (n : Int) ∧ v10 = .int .i64 0 ∧ wx = w')
  case atStart => exact ⟨rfl, rfl, rfl⟩
  case round =>
    obtain ⟨rfl, rfl, rfl⟩ := hrel
    by_cases hlt : n < s.size
    · have hn2 : n < rs.size := by omega
      have hq := E4.out hn2
      have hp := HA.out _ _ (ia_data s n hlt)
      have hpq : (((s[n]'hlt).toNat : Int) != ((rs[n]'hn2).toNat : Int)) = true := by rw [bne_iff_ne]; omega
      go_wp2
      go_step3
      go_wp2
      have HN := Aside0.mk hn
      clear hn
      have hqi0 : (0 : Int) ≤ (n : Int) := by omega
      have hqi1 : (n : Int) < (rs.size : Int) := by omega
      go_quiet (fail)
      obtain ⟨w1, hw1⟩ : ∃ w1, w1 = wr.drewN nq := ⟨_, rfl⟩
      rw [← hw1]
      have hbw : Below wr.heap.size wr w1 := by rw [hw1]; exact pw_below_drewN (Below.refl _ _) _
      clear hw1
      go_wp2
      have hq3 : (n : Int) + 1 ≤ (s.size : Int) := by omega
      have hq4 : (0 : Int) ≤ (n : Int) + 1 := by omega
      have hix : Lib.indexByte (s.extract (n + 1) s.size).data.toList rs[n] = -1 := by
        refine ia_none _ _ (fun j b hj => ?_) hq
        have hm : b ∈ s.data.toList := by
          have h1 : b ∈ (s.extract (n + 1) s.size).data.toList := List.mem_of_getElem? hj
          rw [Lib.extract_data] at h1
          exact List.mem_of_mem_drop (List.mem_of_mem_take h1)
        obtain ⟨j', hj'⟩ := List.getElem?_of_mem hm
        exact HA.out j' b hj'
      have hwr : IntKind.i64.wrap ((n : Int) + 1) = (n : Int) + 1 := IntWalk.i64_in _ (by omega)
      have htn : ((n : Int) + 1).toNat = n + 1 := by omega
      go_quiet ((go_at_call 59; exact Calls.quiet_of_same (Try.strings_IndexByte _ _ _)))
      clear hwr htn
      have hback : ((rs[n].toNat : Int)).toNat.toUInt8 = rs[n] := by simp
      rw [hback, hix]
      obtain ⟨w2, hw2⟩ : ∃ w2, w2 = w1.drewN nq := ⟨_, rfl⟩
      rw [← hw2]
      have hbw2 : Below wr.heap.size wr w2 := by rw [hw2]; exact pw_below_drewN hbw _
      clear hw2
      go_wp2
      repeat (first | refine ex_noGoto_ret ?_ | refine ex_block_ret ?_ | refine ex_then_ret ?_)
      go_ret
      exact ⟨rfl, hbw2⟩
    · go_wp2
      repeat (first | refine ex_noGoto_ret ?_ | refine ex_block_ret ?_ | refine ex_then_ret ?_)
      go_ret
      exact ⟨rfl, Below.refl _ _⟩

/-- A rune from 128 on is none of ASCII bytes. -/
theorem ia_far (s : ByteArray) (r : Int) (w : World) (hs : s.size ≤ 4294967280) (h0 : 128 ≤ r) (h1 : r ≤ 1114111) (ha : ∀ (j : Nat) b, s.data.toList[j]? = some b → b.toNat < 128) :
    Calls Try.prog 51 #[.string s, .int .i32 r] w fun e w' => e = .returned (.int .i64 (-1)) ∧ Below w.heap.size w w' := by
  by_cases hr : r = 65533
  · subst hr
    exact ia_bad s w hs ha
  · cases hv : Lib.validRune r
    · exact ia_ill s r w h0 h1 hv
    · exact ia_hi s r w hs h0 h1 hv hr ha

theorem ia_dn (n b0 b1 b2 b3 : Nat) : (1 < (Lib.decodeN n b0 b1 b2 b3).2 → 1 < n ∧ b1 / 64 = 2) ∧ (2 < (Lib.decodeN n b0 b1 b2 b3).2 → 2 < n ∧ b2 / 64 = 2) ∧ (3 < (Lib.decodeN n b0 b1 b2 b3).2 → 3 < n ∧ b3 / 64 = 2) ∧ (Lib.decodeN n b0 b1 b2 b3).2 ≤ 4 ∧ 1 ≤ (Lib.decodeN n b0 b1 b2 b3).2 := by
  unfold Lib.decodeN
  split
  · simp
  · split
    · rename_i h
      split <;> simp [h.2.1, h.2.2]
    · split
      · rename_i h
        split <;> simp [h.2.1.1, h.2.1.2, h.2.2.1, h.2.2.2]
      · split
        · rename_i h
          split <;> simp [h.2.1.1, h.2.1.2, h.2.2.1.1, h.2.2.1.2, h.2.2.2.1, h.2.2.2.2]
        · simp
theorem ia_get (s : ByteArray) (i : Nat) (hi : i < s.size) : s.get! i = s[i]'hi := by
  show s.data[i]! = s.data[i]
  exact getElem!_pos s.data i hi
theorem ia_rune (s : ByteArray) (i : Nat) (hi : i < s.size) (h : 128 ≤ (s[i]'hi).toNat) : i + (Utf8.decode s i).2 ≤ s.size ∧ 1 ≤ (Utf8.decode s i).2 ∧ ∀ (j : Nat) b, i ≤ j → j < i + (Utf8.decode s i).2 → s.data.toList[j]? = some b → 128 ≤ b.toNat := by
  rw [Lib.decode_at]
  obtain ⟨a1, a2, a3, a4, a5⟩ := ia_dn (s.size - i) (s.get! i).toNat (s.get! (i + 1)).toNat (s.get! (i + 2)).toNat (s.get! (i + 3)).toNat
  generalize (Lib.decodeN (s.size - i) (s.get! i).toNat (s.get! (i + 1)).toNat (s.get! (i + 2)).toNat (s.get! (i + 3)).toNat).2 = wd at *
  refine ⟨by omega, a5, fun j b h1 h2 hb => ?_⟩
  have hj : j < s.size := by
    have := (List.getElem?_eq_some_iff.1 hb).1
    rw [Array.length_toList] at this
    exact this
  have hbj : b = s.get! j := by
    rw [ia_get s j hj]
    rw [ia_data s j hj] at hb
    exact (Option.some.inj hb).symm
  subst hbj
  have h4 : j = i ∨ j = i + 1 ∨ j = i + 2 ∨ j = i + 3 := by omega
  rcases h4 with e | e | e | e <;> subst e
  · rw [ia_get s _ hi]; exact h
  · have := (a1 (by omega)).2; omega
  · have := (a2 (by omega)).2; omega
  · have := (a3 (by omega)).2; omega
theorem ia_runele (s : ByteArray) (i : Nat) : (Utf8.decode s i).1 ≤ 1114111 := by
  have h := Lib.decode_at s i
  rw [h]
  have hb : (s.get! i).toNat < 256 := UInt8.toNat_lt _
  unfold Lib.decodeN
  repeat' split
  all_goals (simp only; omega)

set_option maxHeartbeats 1000000 in
set_option maxRecDepth 100000 in
theorem ia_short (s chars : ByteArray) (w : World) (h2 : 2 ≤ chars.size) (h8 : s.size ≤ 8) (hc8 : chars.size ≤ 4294967280) (hac : ∀ (j : Nat) b, chars.data.toList[j]? = some b → b.toNat < 128) :
    Calls Try.prog 49 #[.string s, .string chars] w fun e w' => e = .returned (.int .i64 (Lib.indexAny s.data.toList chars.data.toList)) ∧ Below w.heap.size w w' := by
  have HA := Aside0.mk hac
  clear hac
  have hemp : chars.toList.isEmpty = false := by
    rw [Lib.toList_data]
    cases h : chars.data.toList with
    | nil => have := Lib.size_eq chars; rw [h, List.length_nil] at this; omega
    | cons _ _ => rfl
  have hn1 : ((chars.size : Int) == 1) = false := beq_eq_false_iff_ne.2 (by omega)
  have h8z : decide ((8 : Int) < (s.size : Int)) = false := decide_eq_false (by omega)
  go_enter Try.func49, Try.ntmps49
  go_wp2_with (go_at_call 52; refine (Try.strings_shouldUseASCIISet _ _).mono ?_; rintro e w' ⟨rfl, hw⟩; rw [hw, h8z])
  go_loopg [9, 10] s.size (fun g _ _ wx => ∃ i : Nat, i ≤ s.size ∧ s.size ≤ i + g ∧ wx.heap[w.heap.size]? = some (.stringIter s i) ∧ Below w.heap.size w wx ∧ Lib.NoAny s.data.toList chars.data.toList i)
  case atStart => exact ⟨0, by omega, by omega, World.iter_heap w s 0, (Below.refl _ w).alloc (Nat.le_refl _) _, Lib.NoAny.zero _ _⟩
  case round =>
    obtain ⟨i, hi1, hi2, hit, hbw, hno⟩ := hrel
    have HN := Aside0.mk hno
    clear hno
    have hsz : w.heap.size < wr.heap.size := (Array.getElem?_eq_some_iff.1 hit).1
    have HB := Aside0.mk hbw
    clear hbw
    by_cases hi : i < s.size
    · have hnx : ∀ ty, (Instr.next (.pointer (some ⟨w.heap.size, 0, none⟩)) true ty).run Try.prog wr = _ := fun ty => Lib.run_next_any_at wr w.heap.size s i ty hit hi
      obtain ⟨x, hx⟩ : ∃ x : UInt8, s[i]'hi = x := ⟨_, rfl⟩
      have Hx := Aside0.mk hx
      have hit2 := Lib.iterAt_heap wr w.heap.size s i (i + (Utf8.decode s i).2) hit
      have hbw2 := Lib.below_iterAt HB.out (k := w.heap.size) (Nat.le_refl _) s (i + (Utf8.decode s i).2)
      by_cases hlo : x.toNat < 128
      · have hd : Utf8.decode s i = (x.toNat, 1) := by
          have := decode_ascii s i hi (by rw [hx]; exact hlo)
          rw [hx] at this
          exact this
        have Hxl := Aside0.mk (show s.data.toList[i]? = some x by rw [ia_data s i hi, hx])
        clear hx Hx
        rw [hd] at hit2 hbw2
        simp only [hd] at hnx
        have HI := Aside0.mk hit2
        have HB2 := Aside0.mk hbw2
        clear hit2 hbw2 hd hit
        have hcon := Lib.contains_iff_indexByte chars.data.toList x
        have hback : ((x.toNat : Int)).toNat.toUInt8 = x := by simp
        cases hin : chars.data.toList.contains x
        · rw [hin] at hcon
          have hlt : ¬ ((0 : Int) ≤ Lib.indexByte chars.data.toList x) := of_decide_eq_false hcon.symm
          clear hcon
          go_wp2_with (go_at_call 51; refine (Try.strings_IndexRune_ascii _ _ _ (by omega) (by omega)).mono ?_; rintro e w' ⟨rfl, hw⟩; rw [hw, hback])
          go_roundg (gk - 1)
          case measure => omega
          case rel => exact ⟨i + 1, by omega, by omega, HI.out, HB2.out, HN.out.succ Hxl.out hin⟩
        · rw [hin] at hcon
          have hge : (0 : Int) ≤ Lib.indexByte chars.data.toList x := of_decide_eq_true hcon.symm
          clear hcon
          go_wp2_with (go_at_call 51; refine (Try.strings_IndexRune_ascii _ _ _ (by omega) (by omega)).mono ?_; rintro e w' ⟨rfl, hw⟩; rw [hw, hback])
          go_ret
          exact ⟨by rw [Lib.indexAny_hit HN.out Hxl.out hin]; rfl, HB2.out⟩
      · obtain ⟨g1, g2, g3⟩ := ia_rune s i hi (by rw [hx]; omega)
        have hr1 := (decode_high s i hi (by rw [hx]; omega)).1
        have hr2 := ia_runele s i
        clear hx
        have HI := Aside0.mk hit2
        have HB2 := Aside0.mk hbw2
        have hsz2 : (wr.iterAt w.heap.size s (i + (Utf8.decode s i).2)).heap.size = wr.heap.size := Lib.iterAt_size _ _ _ _
        have HZ := Aside0.mk hsz2
        clear hit2 hbw2 hit hsz2
        have G3 := Aside0.mk g3
        clear g3
        go_wp2_with (go_at_call 51; refine (ia_far chars _ _ hc8 (by omega) (by omega) HA.out).mono ?_; rintro e w2 ⟨rfl, hb2⟩)
        have hb3 : w2.heap[w.heap.size]? = some (.stringIter s (i + (Utf8.decode s i).2)) := (hb2.block _ (by rw [HZ.out]; exact hsz)).trans HI.out
        have hb4 : Below w.heap.size w w2 := below_then HB2.out (by rw [HZ.out]; omega) hb2
        clear hb2
        have H3 := Aside0.mk hb3
        have H4 := Aside0.mk hb4
        clear hb3 hb4
        go_wp2
        go_roundg (gk - 1)
        case measure => omega
        case rel =>
          refine ⟨i + (Utf8.decode s i).2, by omega, by omega, H3.out, H4.out, fun j b hj hb => ?_⟩
          by_cases hji : j < i
          · exact HN.out j b hji hb
          · have h1 := G3.out j b (by omega) hj hb
            cases hc : chars.data.toList.contains b
            · rfl
            · have hm : b ∈ chars.data.toList := by simpa using hc
              obtain ⟨j', hj'⟩ := List.getElem?_of_mem hm
              have := HA.out j' b hj'
              omega
    · have hnx : ∀ ty, (Instr.next (.pointer (some ⟨w.heap.size, 0, none⟩)) true ty).run Try.prog wr = _ := fun ty => Lib.run_next_end_at wr w.heap.size s i ty hit hi
      go_wp2
      go_ret
      have : i = s.data.toList.length := by rw [Array.length_toList]; show i = s.size; omega
      exact ⟨by rw [Lib.indexAny_none (by rw [← this]; exact HN.out)]; rfl, HB.out⟩

def strings_IndexAny.f (a0 a1 : ByteArray) : Option Int := if 2 ≤ a1.size ∧ a1.size ≤ 4294967280 ∧ a0.size ≤ 4294967280 ∧ (a1.data.toList.all fun b => decide (b.toNat < 128)) = true then some (Lib.indexAny a0.data.toList a1.data.toList) else none

theorem strings_IndexAny.calls (a0 a1 : ByteArray) (r : Int) (w : World) (h : strings_IndexAny.f a0 a1 = some r) :
    Calls Try.prog 49 #[.string a0, .string a1] w fun e w' => e = .returned (.int .i64 r) ∧ Below w.heap.size w w' := by
  unfold strings_IndexAny.f at h
  split at h
  · rename_i hc
    obtain ⟨h1, h2, h3, h4⟩ := hc
    obtain rfl := Option.some.inj h
    have ha := ascii_of_all h4
    by_cases h8 : a0.size ≤ 8
    · exact ia_short a0 a1 w h1 h8 h2 ha
    · refine (Any.strings_IndexAny_long Try.lays153 (fun w => by kernel_rfl) (by kernel_rfl) a0 a1 w h1 (by omega) (by omega) (by omega) ha).mono ?_
      rintro e w' ⟨rfl, rfl⟩
      exact ⟨rfl, ((Below.refl _ w).alloc (Nat.le_refl _) _).alloc (by simp) _⟩
  · cases h
end Go.Proofs.Ytjcfjgcnkbbgmaa.PA
