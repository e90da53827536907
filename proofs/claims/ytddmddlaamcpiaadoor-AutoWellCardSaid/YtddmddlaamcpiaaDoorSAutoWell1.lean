/-
  Texts of the proof of AutoWell, part 1 of 5: contracts and plain laws. Conditions: see each statement.
-/
import Derived.Test.YtddmddlaamcpiaaDoorProg
import Derived.Below
import Derived.Deep.Draws
import Derived.Deep.AppendLies
import Derived.Maps.AppendAt
import Derived.OwnWalk
import Derived.Laws.BytesArg
import Derived.Laws.MakeOwn
import Derived.Laws.OwnMore
import Derived.Deep.OwnRows
import Derived.Tactics
import Derived.Lib.ConvBytes
import Derived.Laws.Slices
import Derived.WalkKit
import Derived.KernelRfl
import Derived.RowKit3
import Derived.Deep.LoopGhost
import Derived.Deep.QuietTactic
import Derived.BigQuiet
import Derived.WideLaws
import Derived.Deep.DeepCutAuto
import Derived.Deep.CutBlock
import Derived.Deep.RegionHeld3
import Derived.Laws.Rows
import Derived.Lib.AppendStr
import Derived.ArgAppend
import Derived.Laws.IdiomCopy
import Derived.OrdersHeld
import Derived.Laws.BitsLemmas
import Derived.RowKit
import Derived.Test.YtddmddlaamcpiaaDoorWWords
import Derived.Test.YtddmddlaamcpiaaDoorWLast
import Derived.Test.YtddmddlaamcpiaaDoorWTab
import Derived.Test.YtddmddlaamcpiaaDoorWFour
import Derived.Test.YtddmddlaamcpiaaDoorWQPut
import Derived.Test.YtddmddlaamcpiaaDoorWApart
import Derived.Test.YtddmddlaamcpiaaDoorWArr
import Derived.Test.YtddmddlaamcpiaaDoorWZeros
import Derived.Test.YtddmddlaamcpiaaDoorWFoot
import Derived.Test.YtddmddlaamcpiaaDoorWKept
import Derived.Test.YtddmddlaamcpiaaDoorWShare
import Derived.Test.YtddmddlaamcpiaaDoorWN
import Derived.Test.YtddmddlaamcpiaaDoorWFootNe
import Derived.Test.YtddmddlaamcpiaaDoorWAt
import Derived.Test.YtddmddlaamcpiaaDoorWEqStruct
import Derived.Test.YtddmddlaamcpiaaDoorWRepsOne
import Derived.Test.YtddmddlaamcpiaaDoorWInv
import Derived.Test.YtddmddlaamcpiaaDoorWInvWords
import Derived.Test.YtddmddlaamcpiaaDoorWGuard
import Derived.Test.YtddmddlaamcpiaaDoorWNEv
import Derived.Test.YtddmddlaamcpiaaDoorWMore
import Derived.Shelf.Strings.SlTrimAscii
import Derived.Shelf.Strings.Trim
import Derived.Shelf.Small.Utf8
import Derived.Shelf.Small.Strs
import Derived.Shelf.Small.Wraps
import Derived.Shelf.Strings.Search1
import Derived.Shelf.Strings.Search2
import Derived.Shelf.Strings.Search3
import Derived.Shelf.Strings.Count
import Derived.Shelf.LaysM
import Derived.Shelf.Strings.Shaped
import Derived.Shelf.Strings.LastIndex
import Derived.Shelf.Strings.Prefix
import Derived.Shelf.Strings.Split
import Derived.Shelf.Strings.Runes
import Derived.Shelf.Strings.IndexAny
import Derived.Shelf.Strings.AsciiSet
import Derived.Shelf.Strings.IndexAnyAll
import Derived.Shelf.Unicode.DecodeSlow
import Derived.Shelf.Unicode.DecodeAny
import Derived.Ground.PaProg
import Derived.Shelf.Path.Small
import Derived.Shelf.Lays
import Derived.Shelf.PaLays
import Derived.Test.YtddmddlaamcpiaaDoorCards
import Derived.Test.YtddmddlaamcpiaaDoorTie
import Derived.ProofKit
import Derived.OpenShut
import Derived.ShutString
import Derived.ChangeOld
import Derived.SizedLaws
import Derived.Deep.DeepHandedRow
import Derived.Lib.LaidTab
import Derived.Lib.LaidU8
import Derived.Shelf.Vars
import Derived.Test.YtddmddlaamcpiaaDoorWSized
import Derived.Lib.Strings
import Derived.Deep.Slices
import Derived.Lib.Builder
import Derived.Lib.SplitLaws
import Derived.BigCall
import Derived.Laws.Runes
import Derived.Lib.OthersKept
import Derived.Outline
import Derived.IntWalk
import Derived.Lib.DecodeNEq
set_option linter.unusedVariables false
namespace Go.Proofs.YtddmddlaamcpiaaDoor.PA
open Go.RowKit Go.Proofs.YtddmddlaamcpiaaDoorW.PrintWords Go.Proofs.YtddmddlaamcpiaaDoorW.PrintLast Go.Proofs.YtddmddlaamcpiaaDoorW.PrintMore
attribute [local go_sem] max2_int min2_int max_two min_two max_three min_three max_four min_four   -- for this text's walks alone
set_option linter.unusedVariables false
set_option linter.unusedSimpArgs false



def errW : Option Int → Value
  | none => .nilIface
  | some c => .iface 0 (.int .i64 c)
theorem errW_none : errW none = .nilIface := rfl
theorem errW_some (c : Int) : errW (some c) = .iface 0 (.int .i64 c) := rfl

theorem info26 : (Tryd.prog.info? 26).map (fun i => (i.zero, i.size, i.bytes)) = some (some (.agg #[(.int .i64 0), (.int .i64 0), (.string ⟨#[]⟩)]), 3, 32) := by kernel_rfl
/-! #### struct type 26 -/
structure S26 where
  f0 : Int
  f1 : Int
  f2 : ByteArray
def z26 : S26 := ⟨(0 : Int), (0 : Int), (⟨#[]⟩ : ByteArray)⟩
def k26 : Kd S26 := Kd.iso (Kd.pair (Kd.int .i64) (Kd.pair (Kd.int .i64) Kd.string)) (fun x : S26 => (x.f0, x.f1, x.f2))
theorem k26_open {w : World} {x : S26} {cs : List Value} (h : k26.K w x cs) : cs = [.int .i64 x.f0, .int .i64 x.f1, .string x.f2] := by
  obtain ⟨_, _, rfl, rfl, ⟨_, _, rfl, rfl, rfl⟩⟩ := h
  exact rfl
theorem k26_mkM (w : World) (base : Nat) (ok : Nat → Prop) (x : S26)  : k26.M w base ok x [.int .i64 x.f0, .int .i64 x.f1, .string x.f2] := ⟨[.int .i64 x.f0], [.int .i64 x.f1, .string x.f2], rfl, rfl, ⟨[.int .i64 x.f1], [.string x.f2], rfl, rfl, rfl⟩⟩
def rd_T26 (xs : List S26) (i : Int) : S26 := xs.getD i.toNat z26
theorem at_T26 {w : World} {A : Option Addr} {n : Nat} {xs : List S26} (h : Kd.C k26 w A n xs) (i : Int) (h0 : 0 ≤ i) (h1 : i < n) : ∃ ad , A = some ad ∧ w.cell? (ad.add (i.toNat * 3)) = some (.int .i64 (rd_T26 xs i).f0) ∧ w.cell? ⟨(ad.add (i.toNat * 3)).block, (ad.add (i.toNat * 3)).off + 1, none⟩ = some (.int .i64 (rd_T26 xs i).f1) ∧ w.cell? ⟨(ad.add (i.toNat * 3)).block, (ad.add (i.toNat * 3)).off + 2, none⟩ = some (.string (rd_T26 xs i).f2) := by
  obtain ⟨ad, c, e, _, hK, hc0⟩ := Kd.C_get h z26 i h0 h1
  have hc : ∀ j u, c[j]? = some u → w.cell? (ad.add (i.toNat * 3 + j)) = some u := hc0
  obtain rfl := k26_open hK
  exact ⟨ad, e, hc 0 _ rfl, by rw [← add_field _ _ 1 (by omega)]; exact hc 1 _ rfl, by rw [← add_field _ _ 2 (by omega)]; exact hc 2 _ rfl⟩

/-! #### struct type 31, nested in itself -/
structure S31 where
  f0 : Int
  f1 : ByteArray
  f2 : ByteArray
  f3 : Int
  f4 : Int
  f5 : Bool
  f6 : (List S31)
def z31 : S31 := ⟨(0 : Int), (⟨#[]⟩ : ByteArray), (⟨#[]⟩ : ByteArray), (0 : Int), (0 : Int), false, ([] : List S31)⟩
def F31 (d : Kd S31) : Kd S31 := Kd.iso (Kd.pair (Kd.int .i64) (Kd.pair Kd.string (Kd.pair Kd.string (Kd.pair (Kd.int .i64) (Kd.pair (Kd.int .i64) (Kd.pair Kd.bool (Kd.slice 31 d))))))) (fun x : S31 => (x.f0, x.f1, x.f2, x.f3, x.f4, x.f5, x.f6))
theorem mono31 : Kd.Mono F31 := Kd.mono_iso _ (Kd.mono_pair (Kd.mono_const _) (Kd.mono_pair (Kd.mono_const _) (Kd.mono_pair (Kd.mono_const _) (Kd.mono_pair (Kd.mono_const _) (Kd.mono_pair (Kd.mono_const _) (Kd.mono_pair (Kd.mono_const _) (Kd.mono_slice 31 Kd.mono_id)))))))
theorem sub31 : Kd.Sub F31 [31] := Kd.sub_iso _ (Kd.sub_pair (Kd.sub_const _ (by decide)) (Kd.sub_pair (Kd.sub_const _ (by decide)) (Kd.sub_pair (Kd.sub_const _ (by decide)) (Kd.sub_pair (Kd.sub_const _ (by decide)) (Kd.sub_pair (Kd.sub_const _ (by decide)) (Kd.sub_pair (Kd.sub_const _ (by decide)) (Kd.sub_slice 31 (by decide) Kd.sub_id)))))))
theorem sz31 : ∀ n, (Kd.upto F31 7 [31] n).sz = 7 := Kd.upto_sz (fun _ => rfl)
def k31 : Kd S31 := Kd.fix F31 7 [31] sz31 (Kd.upto_E sub31)
theorem k31_open {w : World} {x : S31} {cs : List Value} (h : k31.K w x cs) : ∃ A6 c6, cs = [.int .i64 x.f0, .string x.f1, .string x.f2, .int .i64 x.f3, .int .i64 x.f4, .bool x.f5, .slice A6 x.f6.length c6] ∧ x.f6.length ≤ c6 ∧ k31.C w A6 x.f6.length x.f6 := by
  obtain ⟨n, h⟩ := h
  cases n with
  | zero => exact h.elim
  | succ n =>
    obtain ⟨_, _, rfl, rfl, ⟨_, _, rfl, rfl, ⟨_, _, rfl, rfl, ⟨_, _, rfl, rfl, ⟨_, _, rfl, rfl, ⟨_, _, rfl, rfl, ⟨A6, c6, rfl, l6, g6⟩⟩⟩⟩⟩⟩⟩ := h
    exact ⟨A6, c6, rfl, l6, Kd.fix_C g6⟩
theorem k31_mk (w : World) (x : S31) {A6 : Option Addr} {c6 : Nat} (l6 : x.f6.length ≤ c6) (g6 : k31.C w A6 x.f6.length x.f6) : k31.K w x [.int .i64 x.f0, .string x.f1, .string x.f2, .int .i64 x.f3, .int .i64 x.f4, .bool x.f5, .slice A6 x.f6.length c6] := by
  obtain ⟨n6, q6⟩ := Kd.fix_C_back mono31 g6
  have r6 := Kd.upto_C_le mono31 sz31 (show n6 ≤ n6 by omega) q6
  exact ⟨n6 + 1, ⟨[.int .i64 x.f0], [.string x.f1, .string x.f2, .int .i64 x.f3, .int .i64 x.f4, .bool x.f5, .slice A6 x.f6.length c6], rfl, rfl, ⟨[.string x.f1], [.string x.f2, .int .i64 x.f3, .int .i64 x.f4, .bool x.f5, .slice A6 x.f6.length c6], rfl, rfl, ⟨[.string x.f2], [.int .i64 x.f3, .int .i64 x.f4, .bool x.f5, .slice A6 x.f6.length c6], rfl, rfl, ⟨[.int .i64 x.f3], [.int .i64 x.f4, .bool x.f5, .slice A6 x.f6.length c6], rfl, rfl, ⟨[.int .i64 x.f4], [.bool x.f5, .slice A6 x.f6.length c6], rfl, rfl, ⟨[.bool x.f5], [.slice A6 x.f6.length c6], rfl, rfl, ⟨A6, c6, rfl, l6, r6⟩⟩⟩⟩⟩⟩⟩⟩
def rd_T31 (xs : List S31) (i : Int) : S31 := xs.getD i.toNat z31
theorem at_T31 {w : World} {A : Option Addr} {n : Nat} {xs : List S31} (h : Kd.C k31 w A n xs) (i : Int) (h0 : 0 ≤ i) (h1 : i < n) : ∃ ad A6 c6, A = some ad ∧ w.cell? (ad.add (i.toNat * 7)) = some (.int .i64 (rd_T31 xs i).f0) ∧ w.cell? ⟨(ad.add (i.toNat * 7)).block, (ad.add (i.toNat * 7)).off + 1, none⟩ = some (.string (rd_T31 xs i).f1) ∧ w.cell? ⟨(ad.add (i.toNat * 7)).block, (ad.add (i.toNat * 7)).off + 2, none⟩ = some (.string (rd_T31 xs i).f2) ∧ w.cell? ⟨(ad.add (i.toNat * 7)).block, (ad.add (i.toNat * 7)).off + 3, none⟩ = some (.int .i64 (rd_T31 xs i).f3) ∧ w.cell? ⟨(ad.add (i.toNat * 7)).block, (ad.add (i.toNat * 7)).off + 4, none⟩ = some (.int .i64 (rd_T31 xs i).f4) ∧ w.cell? ⟨(ad.add (i.toNat * 7)).block, (ad.add (i.toNat * 7)).off + 5, none⟩ = some (.bool (rd_T31 xs i).f5) ∧ w.cell? ⟨(ad.add (i.toNat * 7)).block, (ad.add (i.toNat * 7)).off + 6, none⟩ = some (.slice A6 (rd_T31 xs i).f6.length c6) ∧ (rd_T31 xs i).f6.length ≤ c6 ∧ k31.C w A6 (rd_T31 xs i).f6.length (rd_T31 xs i).f6 := by
  obtain ⟨ad, c, e, _, hK, hc0⟩ := Kd.C_get h z31 i h0 h1
  have hc : ∀ j u, c[j]? = some u → w.cell? (ad.add (i.toNat * 7 + j)) = some u := hc0
  obtain ⟨A6, c6, rfl, l6, g6⟩ := k31_open hK
  exact ⟨ad, A6, c6, e, hc 0 _ rfl, by rw [← add_field _ _ 1 (by omega)]; exact hc 1 _ rfl, by rw [← add_field _ _ 2 (by omega)]; exact hc 2 _ rfl, by rw [← add_field _ _ 3 (by omega)]; exact hc 3 _ rfl, by rw [← add_field _ _ 4 (by omega)]; exact hc 4 _ rfl, by rw [← add_field _ _ 5 (by omega)]; exact hc 5 _ rfl, by rw [← add_field _ _ 6 (by omega)]; exact hc 6 _ rfl, l6, g6⟩

end Go.Proofs.YtddmddlaamcpiaaDoor.PA

set_option linter.unusedVariables false
namespace Go.Proofs
open Go.Shelf
def Tryd.lays162_ren : Go.Shelf.Ren := ⟨fun | 119 => 55 | 120 => 61 | 137 => 13 | 151 => 50 | 152 => 44 | 162 => 30 | 197 => 62 | 217 => 18 | 224 => 56 | 225 => 57 | 227 => 38 | 228 => 46 | 232 => 37 | 234 => 39 | 236 => 40 | 260 => 65 | 266 => 28 | 271 => 49 | n => n, fun | 0 => 0 | 3 => 3 | 4 => 4 | 5 => 5 | 9 => 9 | 21 => 21 | 46 => 69 | 105 => 64 | 116 => 55 | 117 => 56 | 119 => 73 | 124 => 59 | 138 => 75 | 139 => 76 | n => n, fun | 1 => 0 | 3 => 1 | 4 => 2 | n => n⟩
theorem Tryd.lays162 : Go.Proofs.Lays.n162 Tryd.prog Tryd.lays162_ren := {
  mixed := by kernel_rfl,
  f119 := Tryd.func55.trans (congrArg some (by kernel_rfl)),
  f120 := Tryd.func61.trans (congrArg some (by kernel_rfl)),
  f137 := Tryd.func13.trans (congrArg some (by kernel_rfl)),
  f151 := Tryd.func50.trans (congrArg some (by kernel_rfl)),
  f152 := Tryd.func44.trans (congrArg some (by kernel_rfl)),
  f162 := Tryd.func30.trans (congrArg some (by kernel_rfl)),
  f197 := Tryd.func62.trans (congrArg some (by kernel_rfl)),
  f217 := Tryd.func18.trans (congrArg some (by kernel_rfl)),
  f224 := Tryd.func56.trans (congrArg some (by kernel_rfl)),
  f225 := Tryd.func57.trans (congrArg some (by kernel_rfl)),
  f227 := Tryd.func38.trans (congrArg some (by kernel_rfl)),
  f228 := Tryd.func46.trans (congrArg some (by kernel_rfl)),
  f232 := Tryd.func37.trans (congrArg some (by kernel_rfl)),
  f234 := Tryd.func39.trans (congrArg some (by kernel_rfl)),
  f236 := Tryd.func40.trans (congrArg some (by kernel_rfl)),
  f260 := Tryd.func65.trans (congrArg some (by kernel_rfl)),
  f266 := Tryd.func28.trans (congrArg some (by kernel_rfl)),
  f271 := Tryd.func49.trans (congrArg some (by kernel_rfl)),
  t0 := Tryd.underlying0,
  a0 := Tryd.isAgg0,
  z0 := Tryd.sizeOf0,
  v0 := Tryd.zeroValue0,
  t3 := Tryd.underlying3,
  a3 := Tryd.isAgg3,
  z3 := Tryd.sizeOf3,
  v3 := Tryd.zeroValue3,
  t4 := Tryd.underlying4,
  a4 := Tryd.isAgg4,
  z4 := Tryd.sizeOf4,
  v4 := Tryd.zeroValue4,
  t5 := Tryd.underlying5,
  a5 := Tryd.isAgg5,
  z5 := Tryd.sizeOf5,
  v5 := Tryd.zeroValue5,
  t9 := Tryd.underlying9,
  a9 := Tryd.isAgg9,
  z9 := Tryd.sizeOf9,
  v9 := Tryd.zeroValue9,
  t21 := Tryd.underlying21,
  a21 := Tryd.isAgg21,
  z21 := Tryd.sizeOf21,
  v21 := Tryd.zeroValue21,
  t46 := Tryd.underlying69,
  a46 := Tryd.isAgg69,
  z46 := Tryd.sizeOf69,
  v46 := Tryd.zeroValue69,
  t105 := Tryd.underlying64,
  a105 := Tryd.isAgg64,
  z105 := Tryd.sizeOf64,
  v105 := Tryd.zeroValue64,
  t116 := Tryd.underlying55,
  a116 := Tryd.isAgg55,
  z116 := Tryd.sizeOf55,
  t117 := Tryd.underlying56,
  a117 := Tryd.isAgg56,
  z117 := Tryd.sizeOf56,
  v117 := Tryd.zeroValue56,
  t119 := Tryd.underlying73,
  a119 := Tryd.isAgg73,
  z119 := Tryd.sizeOf73,
  t124 := Tryd.underlying59,
  a124 := Tryd.isAgg59,
  z124 := Tryd.sizeOf59,
  v124 := Tryd.zeroValue59,
  t138 := Tryd.underlying75,
  a138 := Tryd.isAgg75,
  z138 := Tryd.sizeOf75,
  v138 := Tryd.zeroValue75,
  t139 := Tryd.underlying76,
  a139 := Tryd.isAgg76,
  z139 := Tryd.sizeOf76,
  v139 := Tryd.zeroValue76,
  g3 := by kernel_rfl,
  g4 := by kernel_rfl }
def Tryd.lays119_ren : Go.Shelf.Ren := ⟨fun | 119 => 55 | n => n, fun | 4 => 4 | 21 => 21 | n => n, fun | 1 => 0 | 3 => 1 | 4 => 2 | n => n⟩
theorem Tryd.lays119 : Go.Proofs.Lays.n119 Tryd.prog Tryd.lays119_ren := {
  mixed := by kernel_rfl,
  f119 := Tryd.func55.trans (congrArg some (by kernel_rfl)),
  t4 := Tryd.underlying4,
  a4 := Tryd.isAgg4,
  z4 := Tryd.sizeOf4,
  v4 := Tryd.zeroValue4,
  t21 := Tryd.underlying21,
  a21 := Tryd.isAgg21,
  z21 := Tryd.sizeOf21,
  v21 := Tryd.zeroValue21 }
theorem Tryd.utf8_ValidRune (r : Int) (w : World) :
    Calls Tryd.prog 55 #[.int .i32 r] w fun e w' => e = .returned (.bool (Lib.validRune r)) ∧ w' = w := Any.utf8_ValidRune Tryd.lays119 r w
def Tryd.lays137_ren : Go.Shelf.Ren := ⟨fun | 137 => 13 | 217 => 18 | 266 => 28 | n => n, fun | 3 => 3 | 5 => 5 | 9 => 9 | n => n, fun | 1 => 0 | 3 => 1 | 4 => 2 | n => n⟩
theorem Tryd.lays137 : Go.Proofs.Lays.n137 Tryd.prog Tryd.lays137_ren := {
  mixed := by kernel_rfl,
  f137 := Tryd.func13.trans (congrArg some (by kernel_rfl)),
  f217 := Tryd.func18.trans (congrArg some (by kernel_rfl)),
  f266 := Tryd.func28.trans (congrArg some (by kernel_rfl)),
  t3 := Tryd.underlying3,
  a3 := Tryd.isAgg3,
  z3 := Tryd.sizeOf3,
  v3 := Tryd.zeroValue3,
  t5 := Tryd.underlying5,
  a5 := Tryd.isAgg5,
  z5 := Tryd.sizeOf5,
  v5 := Tryd.zeroValue5,
  t9 := Tryd.underlying9,
  a9 := Tryd.isAgg9,
  z9 := Tryd.sizeOf9,
  v9 := Tryd.zeroValue9 }
open Go.RowKit in
theorem Tryd.strings_IndexByte (s : ByteArray) (c : Int) (w : World) :
    Calls Tryd.prog 13 #[.string s, .int .u8 c] w fun e w' => e = .returned (.int .i64 (Lib.indexByte s.data.toList c.toNat.toUInt8)) ∧ w' = w := Any.strings_IndexByte Tryd.lays137 s c w
def Tryd.lays103_ren : Go.Shelf.Ren := ⟨fun | 103 => 22 | 206 => 29 | 210 => 36 | n => n, fun | 3 => 3 | 4 => 4 | 9 => 9 | 24 => 44 | n => n, fun | 1 => 0 | 3 => 1 | 4 => 2 | n => n⟩
theorem Tryd.lays103 : Go.Proofs.Lays.n103 Tryd.prog Tryd.lays103_ren := {
  mixed := by kernel_rfl,
  f103 := Tryd.func22.trans (congrArg some (by kernel_rfl)),
  f206 := Tryd.func29.trans (congrArg some (by kernel_rfl)),
  f210 := Tryd.func36.trans (congrArg some (by kernel_rfl)),
  t3 := Tryd.underlying3,
  a3 := Tryd.isAgg3,
  z3 := Tryd.sizeOf3,
  v3 := Tryd.zeroValue3,
  t4 := Tryd.underlying4,
  a4 := Tryd.isAgg4,
  z4 := Tryd.sizeOf4,
  v4 := Tryd.zeroValue4,
  t9 := Tryd.underlying9,
  a9 := Tryd.isAgg9,
  z9 := Tryd.sizeOf9,
  v9 := Tryd.zeroValue9,
  t24 := Tryd.underlying44,
  a24 := Tryd.isAgg44,
  z24 := Tryd.sizeOf44,
  v24 := Tryd.zeroValue44 }
open Go.RowKit in
theorem Tryd.strings_CutPrefix (s p : ByteArray) (w : World) :
    Calls Tryd.prog 22 #[.string s, .string p] w fun e w' => e = .returned (.tuple #[.string ⟨(Lib.trimPrefix s.data.toList p.data.toList).toArray⟩, .bool (Lib.hasPrefix s.data.toList p.data.toList)]) ∧ w' = w := Any.strings_CutPrefix Tryd.lays103 s p w
def Tryd.lays144_ren : Go.Shelf.Ren := ⟨fun | 143 => 43 | 144 => 33 | 217 => 18 | 219 => 54 | 224 => 56 | 225 => 57 | 266 => 28 | 267 => 63 | 314 => 66 | n => n, fun | 3 => 3 | 4 => 4 | 5 => 5 | 9 => 9 | 46 => 69 | 51 => 70 | 146 => 71 | n => n, fun | 1 => 0 | 3 => 1 | 4 => 2 | n => n⟩
theorem Tryd.lays144 : Go.Proofs.Lays.n144 Tryd.prog Tryd.lays144_ren := {
  mixed := by kernel_rfl,
  f143 := Tryd.func43.trans (congrArg some (by kernel_rfl)),
  f144 := Tryd.func33.trans (congrArg some (by kernel_rfl)),
  f217 := Tryd.func18.trans (congrArg some (by kernel_rfl)),
  f219 := Tryd.func54.trans (congrArg some (by kernel_rfl)),
  f224 := Tryd.func56.trans (congrArg some (by kernel_rfl)),
  f225 := Tryd.func57.trans (congrArg some (by kernel_rfl)),
  f266 := Tryd.func28.trans (congrArg some (by kernel_rfl)),
  f267 := Tryd.func63.trans (congrArg some (by kernel_rfl)),
  f314 := Tryd.func66.trans (congrArg some (by kernel_rfl)),
  t3 := Tryd.underlying3,
  a3 := Tryd.isAgg3,
  z3 := Tryd.sizeOf3,
  v3 := Tryd.zeroValue3,
  t4 := Tryd.underlying4,
  a4 := Tryd.isAgg4,
  z4 := Tryd.sizeOf4,
  v4 := Tryd.zeroValue4,
  t5 := Tryd.underlying5,
  a5 := Tryd.isAgg5,
  z5 := Tryd.sizeOf5,
  v5 := Tryd.zeroValue5,
  t9 := Tryd.underlying9,
  a9 := Tryd.isAgg9,
  z9 := Tryd.sizeOf9,
  v9 := Tryd.zeroValue9,
  t46 := Tryd.underlying69,
  a46 := Tryd.isAgg69,
  z46 := Tryd.sizeOf69,
  v46 := Tryd.zeroValue69,
  t51 := Tryd.underlying70,
  a51 := Tryd.isAgg70,
  z51 := Tryd.sizeOf70,
  v51 := Tryd.zeroValue70,
  t146 := Tryd.underlying71,
  a146 := Tryd.isAgg71,
  z146 := Tryd.sizeOf71,
  v146 := Tryd.zeroValue71,
  g1 := by kernel_rfl }
open Go.RowKit Go.Lib in
theorem Tryd.strings_Contains_one (s : ByteArray) (c : UInt8) (w : World) :
    Calls Tryd.prog 33 #[.string s, .string ⟨#[c]⟩] w fun e w' => e = .returned (.bool (decide (0 ≤ Lib.indexByte s.data.toList c))) ∧ w' = w := Any.strings_Contains_one Tryd.lays144 s c w
open Go.RowKit Go.Lib in
theorem Tryd.strings_Contains (s sub : ByteArray) (m : Int) (w : World) (hs : s.size < 4294967281) (hm : w.cell? ⟨0, 0, none⟩ = some (.int .i64 m)) :
    Calls Tryd.prog 33 #[.string s, .string sub] w fun e w' => e = .returned (.bool (Lib.contains s.data.toList sub.data.toList)) ∧ w' = w := Any.strings_Contains Tryd.lays144 s sub m w hs hm
def Tryd.lays138_ren : Go.Shelf.Ren := ⟨fun | 138 => 47 | 143 => 43 | 195 => 58 | 217 => 18 | 218 => 59 | 219 => 54 | 224 => 56 | 225 => 57 | 266 => 28 | 267 => 63 | 314 => 66 | n => n, fun | 0 => 0 | 3 => 3 | 4 => 4 | 5 => 5 | 9 => 9 | 46 => 69 | 51 => 70 | 146 => 71 | n => n, fun | 1 => 0 | 3 => 1 | 4 => 2 | n => n⟩
theorem Tryd.lays138 : Go.Proofs.Lays.n138 Tryd.prog Tryd.lays138_ren := {
  mixed := by kernel_rfl,
  f138 := Tryd.func47.trans (congrArg some (by kernel_rfl)),
  f143 := Tryd.func43.trans (congrArg some (by kernel_rfl)),
  f195 := Tryd.func58.trans (congrArg some (by kernel_rfl)),
  f217 := Tryd.func18.trans (congrArg some (by kernel_rfl)),
  f218 := Tryd.func59.trans (congrArg some (by kernel_rfl)),
  f219 := Tryd.func54.trans (congrArg some (by kernel_rfl)),
  f224 := Tryd.func56.trans (congrArg some (by kernel_rfl)),
  f225 := Tryd.func57.trans (congrArg some (by kernel_rfl)),
  f266 := Tryd.func28.trans (congrArg some (by kernel_rfl)),
  f267 := Tryd.func63.trans (congrArg some (by kernel_rfl)),
  f314 := Tryd.func66.trans (congrArg some (by kernel_rfl)),
  t0 := Tryd.underlying0,
  a0 := Tryd.isAgg0,
  z0 := Tryd.sizeOf0,
  v0 := Tryd.zeroValue0,
  t3 := Tryd.underlying3,
  a3 := Tryd.isAgg3,
  z3 := Tryd.sizeOf3,
  v3 := Tryd.zeroValue3,
  t4 := Tryd.underlying4,
  a4 := Tryd.isAgg4,
  z4 := Tryd.sizeOf4,
  v4 := Tryd.zeroValue4,
  t5 := Tryd.underlying5,
  a5 := Tryd.isAgg5,
  z5 := Tryd.sizeOf5,
  v5 := Tryd.zeroValue5,
  t9 := Tryd.underlying9,
  a9 := Tryd.isAgg9,
  z9 := Tryd.sizeOf9,
  v9 := Tryd.zeroValue9,
  t46 := Tryd.underlying69,
  a46 := Tryd.isAgg69,
  z46 := Tryd.sizeOf69,
  v46 := Tryd.zeroValue69,
  t51 := Tryd.underlying70,
  a51 := Tryd.isAgg70,
  z51 := Tryd.sizeOf70,
  v51 := Tryd.zeroValue70,
  t146 := Tryd.underlying71,
  a146 := Tryd.isAgg71,
  z146 := Tryd.sizeOf71,
  v146 := Tryd.zeroValue71,
  g1 := by kernel_rfl }
open Go.RowKit Go.Lib in
theorem Tryd.strings_Count_one (s : ByteArray) (c : UInt8) (w : World) :
    Calls Tryd.prog 47 #[.string s, .string ⟨#[c]⟩] w fun e w' => e = .returned (.int .i64 (Lib.countByte s.data.toList c)) ∧ w' = w := Any.strings_Count_one Tryd.lays138 s c w
open Go.RowKit Go.Lib in
theorem Tryd.strings_Count (s sub : ByteArray) (m : Int) (w : World) (hs : s.size < 4294967281) (hm : w.cell? ⟨0, 0, none⟩ = some (.int .i64 m)) (h2 : 2 ≤ sub.size) :
    Calls Tryd.prog 47 #[.string s, .string sub] w fun e w' => e = .returned (.int .i64 (Lib.countB s sub)) ∧ w' = w := Any.strings_Count Tryd.lays138 s sub m w hs hm h2
def Tryd.lays149_ren : Go.Shelf.Ren := ⟨fun | 149 => 60 | 222 => 64 | n => n, fun | 3 => 3 | 4 => 4 | 5 => 5 | 9 => 9 | n => n, fun | 1 => 0 | 3 => 1 | 4 => 2 | n => n⟩
theorem Tryd.lays149 : Go.Proofs.Lays.n149 Tryd.prog Tryd.lays149_ren := {
  mixed := by kernel_rfl,
  f149 := Tryd.func60.trans (congrArg some (by kernel_rfl)),
  f222 := Tryd.func64.trans (congrArg some (by kernel_rfl)),
  t3 := Tryd.underlying3,
  a3 := Tryd.isAgg3,
  z3 := Tryd.sizeOf3,
  v3 := Tryd.zeroValue3,
  t4 := Tryd.underlying4,
  a4 := Tryd.isAgg4,
  z4 := Tryd.sizeOf4,
  v4 := Tryd.zeroValue4,
  t5 := Tryd.underlying5,
  a5 := Tryd.isAgg5,
  z5 := Tryd.sizeOf5,
  v5 := Tryd.zeroValue5,
  t9 := Tryd.underlying9,
  a9 := Tryd.isAgg9,
  z9 := Tryd.sizeOf9,
  v9 := Tryd.zeroValue9 }
open Go.RowKit Go.Lib in
theorem Tryd.strings_LastIndexByte (s : ByteArray) (c : Int) (hs : s.size < 4611686018427387904) (w : World) :
    Calls Tryd.prog 60 #[.string s, .int .u8 c] w fun e w' => e = .returned (.int .i64 (Lib.lastIndexByte s c)) ∧ w' = w := Any.strings_LastIndexByte Tryd.lays149 s c hs w
def Tryd.lays99_ren : Go.Shelf.Ren := ⟨fun | 99 => 19 | 206 => 29 | n => n, fun | 3 => 3 | 4 => 4 | 9 => 9 | n => n, fun | 1 => 0 | 3 => 1 | 4 => 2 | n => n⟩
theorem Tryd.lays99 : Go.Proofs.Lays.n99 Tryd.prog Tryd.lays99_ren := {
  mixed := by kernel_rfl,
  f99 := Tryd.func19.trans (congrArg some (by kernel_rfl)),
  f206 := Tryd.func29.trans (congrArg some (by kernel_rfl)),
  t3 := Tryd.underlying3,
  a3 := Tryd.isAgg3,
  z3 := Tryd.sizeOf3,
  v3 := Tryd.zeroValue3,
  t4 := Tryd.underlying4,
  a4 := Tryd.isAgg4,
  z4 := Tryd.sizeOf4,
  v4 := Tryd.zeroValue4,
  t9 := Tryd.underlying9,
  a9 := Tryd.isAgg9,
  z9 := Tryd.sizeOf9,
  v9 := Tryd.zeroValue9 }
open Go.RowKit Go.Lib in
theorem Tryd.strings_HasPrefix (s p : ByteArray) (w : World) :
    Calls Tryd.prog 19 #[.string s, .string p] w fun e w' => e = .returned (.bool (Lib.hasPrefix s.data.toList p.data.toList)) ∧ w' = w := Any.strings_HasPrefix Tryd.lays99 s p w
def Tryd.lays146_ren : Go.Shelf.Ren := ⟨fun | 138 => 47 | 143 => 43 | 146 => 32 | 195 => 58 | 197 => 62 | 217 => 18 | 218 => 59 | 219 => 54 | 221 => 42 | 224 => 56 | 225 => 57 | 260 => 65 | 266 => 28 | 267 => 63 | 268 => 53 | 314 => 66 | n => n, fun | 0 => 0 | 3 => 3 | 4 => 4 | 5 => 5 | 9 => 9 | 21 => 21 | 31 => 43 | 46 => 69 | 51 => 70 | 105 => 64 | 119 => 73 | 138 => 75 | 139 => 76 | 146 => 71 | n => n, fun | 1 => 0 | 3 => 1 | 4 => 2 | n => n⟩
theorem Tryd.lays146 : Go.Proofs.Lays.n146 Tryd.prog Tryd.lays146_ren := {
  mixed := by kernel_rfl,
  f138 := Tryd.func47.trans (congrArg some (by kernel_rfl)),
  f143 := Tryd.func43.trans (congrArg some (by kernel_rfl)),
  f146 := Tryd.func32.trans (congrArg some (by kernel_rfl)),
  f195 := Tryd.func58.trans (congrArg some (by kernel_rfl)),
  f197 := Tryd.func62.trans (congrArg some (by kernel_rfl)),
  f217 := Tryd.func18.trans (congrArg some (by kernel_rfl)),
  f218 := Tryd.func59.trans (congrArg some (by kernel_rfl)),
  f219 := Tryd.func54.trans (congrArg some (by kernel_rfl)),
  f221 := Tryd.func42.trans (congrArg some (by kernel_rfl)),
  f224 := Tryd.func56.trans (congrArg some (by kernel_rfl)),
  f225 := Tryd.func57.trans (congrArg some (by kernel_rfl)),
  f260 := Tryd.func65.trans (congrArg some (by kernel_rfl)),
  f266 := Tryd.func28.trans (congrArg some (by kernel_rfl)),
  f267 := Tryd.func63.trans (congrArg some (by kernel_rfl)),
  f268 := Tryd.func53.trans (congrArg some (by kernel_rfl)),
  f314 := Tryd.func66.trans (congrArg some (by kernel_rfl)),
  t0 := Tryd.underlying0,
  a0 := Tryd.isAgg0,
  z0 := Tryd.sizeOf0,
  v0 := Tryd.zeroValue0,
  t3 := Tryd.underlying3,
  a3 := Tryd.isAgg3,
  z3 := Tryd.sizeOf3,
  v3 := Tryd.zeroValue3,
  t4 := Tryd.underlying4,
  a4 := Tryd.isAgg4,
  z4 := Tryd.sizeOf4,
  v4 := Tryd.zeroValue4,
  t5 := Tryd.underlying5,
  a5 := Tryd.isAgg5,
  z5 := Tryd.sizeOf5,
  v5 := Tryd.zeroValue5,
  t9 := Tryd.underlying9,
  a9 := Tryd.isAgg9,
  z9 := Tryd.sizeOf9,
  v9 := Tryd.zeroValue9,
  t21 := Tryd.underlying21,
  a21 := Tryd.isAgg21,
  z21 := Tryd.sizeOf21,
  v21 := Tryd.zeroValue21,
  t31 := Tryd.underlying43,
  a31 := Tryd.isAgg43,
  z31 := Tryd.sizeOf43,
  v31 := Tryd.zeroValue43,
  t46 := Tryd.underlying69,
  a46 := Tryd.isAgg69,
  z46 := Tryd.sizeOf69,
  v46 := Tryd.zeroValue69,
  t51 := Tryd.underlying70,
  a51 := Tryd.isAgg70,
  z51 := Tryd.sizeOf70,
  v51 := Tryd.zeroValue70,
  t105 := Tryd.underlying64,
  a105 := Tryd.isAgg64,
  z105 := Tryd.sizeOf64,
  v105 := Tryd.zeroValue64,
  t119 := Tryd.underlying73,
  a119 := Tryd.isAgg73,
  z119 := Tryd.sizeOf73,
  t138 := Tryd.underlying75,
  a138 := Tryd.isAgg75,
  z138 := Tryd.sizeOf75,
  v138 := Tryd.zeroValue75,
  t139 := Tryd.underlying76,
  a139 := Tryd.isAgg76,
  z139 := Tryd.sizeOf76,
  v139 := Tryd.zeroValue76,
  t146 := Tryd.underlying71,
  a146 := Tryd.isAgg71,
  z146 := Tryd.sizeOf71,
  v146 := Tryd.zeroValue71,
  g1 := by kernel_rfl,
  g3 := by kernel_rfl,
  g4 := by kernel_rfl }
open Go.RowKit Go.Lib in
theorem Tryd.strings_Split (s sep : ByteArray) (m : Int) (w : World) (hs : s.size < 4294967281) (hm : w.cell? ⟨0, 0, none⟩ = some (.int .i64 m)) (h1 : 1 ≤ sep.size) :
    Calls Tryd.prog 32 #[.string s, .string sep] w fun e w' =>
      e = .returned (.slice (some ⟨w.heap.size, 0, none⟩) (Lib.countB s sep + 1) (Lib.countB s sep + 1)) ∧ w' = w.alloc (.cells ((Lib.splitB sep 0 (Lib.countB s sep) s).map Value.string).toArray 9) := Any.strings_Split Tryd.lays146 (by kernel_rfl) s sep m w hs hm h1
def Tryd.lays152_ren : Go.Shelf.Ren := ⟨fun | 119 => 55 | 137 => 13 | 152 => 44 | 217 => 18 | 224 => 56 | 225 => 57 | 266 => 28 | n => n, fun | 0 => 0 | 3 => 3 | 4 => 4 | 5 => 5 | 9 => 9 | 21 => 21 | 46 => 69 | n => n, fun | 1 => 0 | 3 => 1 | 4 => 2 | n => n⟩
theorem Tryd.lays152 : Go.Proofs.Lays.n152 Tryd.prog Tryd.lays152_ren := {
  mixed := by kernel_rfl,
  f119 := Tryd.func55.trans (congrArg some (by kernel_rfl)),
  f137 := Tryd.func13.trans (congrArg some (by kernel_rfl)),
  f152 := Tryd.func44.trans (congrArg some (by kernel_rfl)),
  f217 := Tryd.func18.trans (congrArg some (by kernel_rfl)),
  f224 := Tryd.func56.trans (congrArg some (by kernel_rfl)),
  f225 := Tryd.func57.trans (congrArg some (by kernel_rfl)),
  f266 := Tryd.func28.trans (congrArg some (by kernel_rfl)),
  t0 := Tryd.underlying0,
  a0 := Tryd.isAgg0,
  z0 := Tryd.sizeOf0,
  v0 := Tryd.zeroValue0,
  t3 := Tryd.underlying3,
  a3 := Tryd.isAgg3,
  z3 := Tryd.sizeOf3,
  v3 := Tryd.zeroValue3,
  t4 := Tryd.underlying4,
  a4 := Tryd.isAgg4,
  z4 := Tryd.sizeOf4,
  v4 := Tryd.zeroValue4,
  t5 := Tryd.underlying5,
  a5 := Tryd.isAgg5,
  z5 := Tryd.sizeOf5,
  v5 := Tryd.zeroValue5,
  t9 := Tryd.underlying9,
  a9 := Tryd.isAgg9,
  z9 := Tryd.sizeOf9,
  v9 := Tryd.zeroValue9,
  t21 := Tryd.underlying21,
  a21 := Tryd.isAgg21,
  z21 := Tryd.sizeOf21,
  v21 := Tryd.zeroValue21,
  t46 := Tryd.underlying69,
  a46 := Tryd.isAgg69,
  z46 := Tryd.sizeOf69,
  v46 := Tryd.zeroValue69 }
open Go.RowKit Go.Lib in
theorem Tryd.strings_IndexRune_ascii (s : ByteArray) (r : Int) (w : World) (h0 : 0 ≤ r) (h1 : r < 128) :
    Calls Tryd.prog 44 #[.string s, .int .i32 r] w fun e w' => e = .returned (.int .i64 (Lib.indexByte s.data.toList r.toNat.toUInt8)) ∧ w' = w := Any.strings_IndexRune_ascii Tryd.lays152 s r w h0 h1
def Tryd.lays226_ren : Go.Shelf.Ren := ⟨fun | 226 => 45 | n => n, fun | 3 => 3 | 4 => 4 | n => n, fun | 1 => 0 | 3 => 1 | 4 => 2 | n => n⟩
theorem Tryd.lays226 : Go.Proofs.Lays.n226 Tryd.prog Tryd.lays226_ren := {
  mixed := by kernel_rfl,
  f226 := Tryd.func45.trans (congrArg some (by kernel_rfl)),
  t3 := Tryd.underlying3,
  a3 := Tryd.isAgg3,
  z3 := Tryd.sizeOf3,
  v3 := Tryd.zeroValue3,
  t4 := Tryd.underlying4,
  a4 := Tryd.isAgg4,
  z4 := Tryd.sizeOf4,
  v4 := Tryd.zeroValue4 }
open Go.RowKit Go.Lib in
theorem Tryd.strings_shouldUseASCIISet (n : Int) (w : World) :
    Calls Tryd.prog 45 #[.int .i64 n] w fun e w' => e = .returned (.bool (decide (8 < n))) ∧ w' = w := Any.strings_shouldUseASCIISet Tryd.lays226 n w
def Tryd.lays153_ren : Go.Shelf.Ren := ⟨fun | 119 => 55 | 137 => 13 | 152 => 44 | 153 => 34 | 217 => 18 | 224 => 56 | 225 => 57 | 226 => 45 | 227 => 38 | 228 => 46 | 266 => 28 | n => n, fun | 0 => 0 | 3 => 3 | 4 => 4 | 5 => 5 | 9 => 9 | 21 => 21 | 46 => 69 | 116 => 55 | 117 => 56 | 124 => 59 | n => n, fun | 1 => 0 | 3 => 1 | 4 => 2 | n => n⟩
theorem Tryd.lays153 : Go.Proofs.Lays.n153 Tryd.prog Tryd.lays153_ren := {
  mixed := by kernel_rfl,
  f119 := Tryd.func55.trans (congrArg some (by kernel_rfl)),
  f137 := Tryd.func13.trans (congrArg some (by kernel_rfl)),
  f152 := Tryd.func44.trans (congrArg some (by kernel_rfl)),
  f153 := Tryd.func34.trans (congrArg some (by kernel_rfl)),
  f217 := Tryd.func18.trans (congrArg some (by kernel_rfl)),
  f224 := Tryd.func56.trans (congrArg some (by kernel_rfl)),
  f225 := Tryd.func57.trans (congrArg some (by kernel_rfl)),
  f226 := Tryd.func45.trans (congrArg some (by kernel_rfl)),
  f227 := Tryd.func38.trans (congrArg some (by kernel_rfl)),
  f228 := Tryd.func46.trans (congrArg some (by kernel_rfl)),
  f266 := Tryd.func28.trans (congrArg some (by kernel_rfl)),
  t0 := Tryd.underlying0,
  a0 := Tryd.isAgg0,
  z0 := Tryd.sizeOf0,
  v0 := Tryd.zeroValue0,
  t3 := Tryd.underlying3,
  a3 := Tryd.isAgg3,
  z3 := Tryd.sizeOf3,
  v3 := Tryd.zeroValue3,
  t4 := Tryd.underlying4,
  a4 := Tryd.isAgg4,
  z4 := Tryd.sizeOf4,
  v4 := Tryd.zeroValue4,
  t5 := Tryd.underlying5,
  a5 := Tryd.isAgg5,
  z5 := Tryd.sizeOf5,
  v5 := Tryd.zeroValue5,
  t9 := Tryd.underlying9,
  a9 := Tryd.isAgg9,
  z9 := Tryd.sizeOf9,
  v9 := Tryd.zeroValue9,
  t21 := Tryd.underlying21,
  a21 := Tryd.isAgg21,
  z21 := Tryd.sizeOf21,
  v21 := Tryd.zeroValue21,
  t46 := Tryd.underlying69,
  a46 := Tryd.isAgg69,
  z46 := Tryd.sizeOf69,
  v46 := Tryd.zeroValue69,
  t116 := Tryd.underlying55,
  a116 := Tryd.isAgg55,
  z116 := Tryd.sizeOf55,
  t117 := Tryd.underlying56,
  a117 := Tryd.isAgg56,
  z117 := Tryd.sizeOf56,
  v117 := Tryd.zeroValue56,
  t124 := Tryd.underlying59,
  a124 := Tryd.isAgg59,
  z124 := Tryd.sizeOf59,
  v124 := Tryd.zeroValue59 }
open Go.RowKit Go.Lib in
theorem Tryd.strings_IndexAny_long (hv116 : ∀ w, (zeroValue 55).run Tryd.prog w = .ok (.agg (Array.replicate 256 (.bool false))) w) (s chars : ByteArray) (w : World) (h2 : 2 ≤ chars.size) (h8 : 8 < s.size) (hs : s.size < 4294967281) (hcs : chars.size < 4294967281) (hascii : ∀ (j : Nat) b, chars.data.toList[j]? = some b → b.toNat < 128) :
    Calls Tryd.prog 34 #[.string s, .string chars] w fun e w' => e = .returned (.int .i64 (Lib.indexAny s.data.toList chars.data.toList)) ∧ w' = ((w.alloc (.cells (Lib.setCells chars.data.toList) 55)).alloc (.cells (Lib.setCells chars.data.toList) 55)) := Any.strings_IndexAny_long Tryd.lays153 hv116 (by kernel_rfl) s chars w h2 h8 hs hcs hascii
open Go.RowKit Go.Lib in
theorem Tryd.strings_IndexAny (hv116 : ∀ w, (zeroValue 55).run Tryd.prog w = .ok (.agg (Array.replicate 256 (.bool false))) w) (s chars : ByteArray) (w : World) (hs : s.size < 4294967281) (hcs : chars.size < 4294967281) (has : ∀ (j : Nat) b, s.data.toList[j]? = some b → b.toNat < 128) (hac : ∀ (j : Nat) b, chars.data.toList[j]? = some b → b.toNat < 128) :
    Calls Tryd.prog 34 #[.string s, .string chars] w fun e w' => e = .returned (.int .i64 (Lib.indexAny s.data.toList chars.data.toList)) ∧ Below w.heap.size w w' := Any.strings_IndexAny Tryd.lays153 hv116 (by kernel_rfl) s chars w hs hcs has hac
end Go.Proofs

namespace Go.Proofs.YtddmddlaamcpiaaDoor.PA
open Go.RowKit Go.Proofs.YtddmddlaamcpiaaDoorW.PrintWords

theorem ex_then_ret {next : Act → World → Prop} {Q : Exit → Act → World → Prop} {a : Act} {w : World} (h : Q Exit.ret a w) : Exit.then next Q Exit.ret a w := h
theorem ex_block_ret {id : Nat} {Q : Exit → Act → World → Prop} {a : Act} {w : World} (h : Q Exit.ret a w) : Exit.inBlock id Q Exit.ret a w := h
theorem ex_noGoto_ret {Q : Exit → Act → World → Prop} {a : Act} {w : World} (h : Q Exit.ret a w) : Exit.noGoto Q Exit.ret a w := h
theorem retNe (l : List UInt8) : Ending.returned (Value.bool (!l.isEmpty)) = Ending.returned (Value.bool (l != ([] : List UInt8))) := by cases l <;> rfl
/-- internal/bytealg.MaxLen holds a whole number. -/
structure Laid (w : World) : Prop where
  ml : ∃ m : Int, w.cell? ⟨0, 0, none⟩ = some (.int .i64 m)
  size : 0 < w.heap.size
theorem Laid.go {w W : World} (h : Laid w) (hb : Below w.heap.size w W) : Laid W := by
  obtain ⟨m, hm⟩ := h.ml
  refine ⟨⟨m, ?_⟩, by have := h.size; have := hb.size; omega⟩
  rw [← hm]
  exact hb.cell (by have := h.size; show 0 < w.heap.size; omega)
end Go.Proofs.YtddmddlaamcpiaaDoor.PA

namespace Go.Proofs.YtddmddlaamcpiaaDoor.RowU8
open Go.ChangeShapes Go.WideShapes Go.ChangeAt Go.RowKit Go.Lib

theorem own : ownKnob Tryd.prog.godebug = none := by kernel_rfl
theorem laidOut : laidOutB Tryd.prog = true := by kernel_rfl
theorem laidOf {W : World} (h : W.ShapedOpen Tryd.prog) : PA.Laid W := by
  have hm : ∃ m : Int, W.cell? ⟨0, 0, none⟩ = some (.int .i64 m) :=
    cell_of_shapedOpen_int (t := 3) (zero := #[.int .i64 0]) h (of_decide_eq_true (by kernel_rfl)) (by kernel_rfl) rfl (by kernel_rfl) (by kernel_rfl) Tryd.underlying3
  obtain ⟨m, hm'⟩ := hm
  refine ⟨⟨m, hm'⟩, ?_⟩
  rcases Nat.lt_or_ge 0 W.heap.size with h' | h'
  · exact h'
  · simp [World.cell?, Array.getElem?_eq_none h'] at hm'
def accCells : Array Value := ((List.range 16).flatMap fun i => [Value.int .u8 (accLo i), Value.int .u8 (accHi i)]).toArray
def firstCells : Array Value := ((List.range 256).map fun c => Value.int .u8 (firstT c)).toArray
def layCells (a : Array Value) : Obj → Obj
  | .cells _ t frozen => .cells a t frozen
  | o => o
/-- A world for the witness: the settled one, the two tables holding what their initialisers lay. -/
noncomputable def laidWorld (os : Os) : World :=
  { World.holding Tryd.prog os ⟨#[], #[], []⟩ with heap := ((World.holding Tryd.prog os ⟨#[], #[], []⟩).heap.modify 2 (layCells accCells)).modify 1 (layCells firstCells) }
end Go.Proofs.YtddmddlaamcpiaaDoor.RowU8

namespace Go.Proofs.YtddmddlaamcpiaaDoor.Pl
open Go.RowKit Go.Proofs.YtddmddlaamcpiaaDoorW.PrintWords

/-- A list of bytes as a text. -/
def B (l : List UInt8) : ByteArray := ⟨l.toArray⟩
theorem B_eta (a : ByteArray) : B a.data.toList = a := rfl
theorem B_data (l : List UInt8) : (B l).data.toList = l := by simp [B]
theorem B_size (l : List UInt8) : (B l).size = l.length := by show l.toArray.size = _; simp
theorem B_ext {a b : ByteArray} (h : a.data.toList = b.data.toList) : a = b := by rw [← B_eta a, ← B_eta b, h]
theorem B_append (l m : List UInt8) : B l ++ B m = B (l ++ m) := by
  apply B_ext
  rw [B_data, ByteArray.data_append, Array.toList_append, B_data, B_data]
theorem B_extract (l : List UInt8) (i j : Nat) : (B l).extract i j = B ((l.drop i).take (j - i)) := by
  apply B_ext
  rw [B_data, Lib.extract_data, B_data]
theorem B_from (l : List UInt8) (i n : Nat) (h : n = l.length) : (B l).extract i n = B (l.drop i) := by
  rw [B_extract, List.take_of_length_le (by simp; omega)]
theorem B_to (l : List UInt8) (j : Nat) : (B l).extract 0 j = B (l.take j) := by rw [B_extract, List.drop_zero, Nat.sub_zero]
theorem B_bt (l : List UInt8) (i : Nat) (h : i < l.length) : bt (B l) (i : Int) = ((l[i]'h).toNat : Int) := by
  unfold bt
  have hs := B_size l
  rw [dif_pos (by rw [Int.toNat_natCast]; omega)]
  have : (B l)[(i : Int).toNat]'(by rw [Int.toNat_natCast]; omega) = l[i]'h := by
    show (B l).data[(i : Int).toNat] = _
    simp [B]
  rw [this]
theorem w64 {x : Int} (h0 : -9223372036854775808 ≤ x) (h1 : x ≤ 9223372036854775807) : wrap64 x = x := by unfold wrap64; omega
theorem u8_eq (x : UInt8) (n : Nat) (h : n < 256) : ((x.toNat : Int) = (n : Int)) ↔ x = UInt8.ofNat n := by
  constructor
  · intro e
    apply UInt8.toNat_inj.1
    rw [UInt8.toNat_ofNat']
    omega
  · intro e
    subst e
    rw [UInt8.toNat_ofNat']
    omega
theorem getD_at (l : List ByteArray) (i : Nat) (h : i < l.length) : rdOf ByteArray.empty l (i : Int) = l[i]'h := by
  unfold rdOf
  rw [Int.toNat_natCast, List.getD_eq_getElem?_getD, List.getElem?_eq_getElem h]
  rfl
end Go.Proofs.YtddmddlaamcpiaaDoor.Pl

namespace Go.Proofs.YtddmddlaamcpiaaDoor.Pl
open Go.RowKit Go.Proofs.YtddmddlaamcpiaaDoor.PA Go.Proofs.YtddmddlaamcpiaaDoorW.PrintWords
set_option linter.unusedVariables false

abbrev Nd := S31
/-- A number that an int holds. -/
def i64 (n : Int) : Prop := -9223372036854775808 ≤ n ∧ n ≤ 9223372036854775807
mutual
def wt1 : Nd → Nat
  | ⟨k, s, t, n, mm, fl, l⟩ => 1 + s.size + t.size + wt l
def wt : List Nd → Nat
  | [] => 0
  | x :: r => wt1 x + wt r
end
theorem wt1_eta (x : Nd) : wt1 x = 1 + x.f1.size + x.f2.size + wt x.f6 := by cases x; rw [wt1]
theorem wt_append : ∀ a b : List Nd, wt (a ++ b) = wt a + wt b
  | [], b => by rw [List.nil_append, wt]; omega
  | x :: a, b => by rw [List.cons_append, wt, wt, wt_append a b]; omega
theorem wt_mem : ∀ {l : List Nd} {x : Nd}, x ∈ l → wt1 x ≤ wt l
  | [], x, h => by simp at h
  | y :: r, x, h => by
    rw [wt]
    rcases List.mem_cons.1 h with rfl | h
    · omega
    · have := wt_mem h; omega
mutual
/-- What any reading says of a part; of parts. -/
def dt1 : Nd → Prop
  | ⟨k, s, t, n, mm, fl, l⟩ => (i64 n ∧ i64 mm ∧ s.size ≤ 140737488351232 ∧ t.size ≤ 140737488351232) ∧ dtl l
def dtl : List Nd → Prop
  | [] => True
  | x :: r => dt1 x ∧ dtl r
end
theorem dtl_of : ∀ {l : List Nd}, (∀ x ∈ l, dt1 x) → dtl l
  | [], _ => by rw [dtl]; trivial
  | y :: r, h => by rw [dtl]; exact ⟨h y List.mem_cons_self, dtl_of fun x hx => h x (List.mem_cons_of_mem _ hx)⟩
theorem rd_at {l : List Nd} {i : Nat} (hi : i < l.length) : rd_T31 l (i : Int) = l[i] := by
  unfold rd_T31
  rw [Int.toNat_natCast, List.getD_eq_getElem?_getD, List.getElem?_eq_getElem hi]
  rfl
theorem len_wt : ∀ l : List Nd, l.length ≤ wt l
  | [] => by simp
  | x :: r => by rw [List.length_cons, wt]; have := wt1_eta x; have := len_wt r; omega
end Go.Proofs.YtddmddlaamcpiaaDoor.Pl

namespace Go.Proofs.YtddmddlaamcpiaaDoor.RowU8
open Go.ChangeShapes Go.WideShapes Go.ChangeAt Go.RowKit Go.Lib Go.Proofs.YtddmddlaamcpiaaDoor.Pl
set_option linter.unusedVariables false
section
variable {H : Type} {enc : TypeId × Value → H} {W : World} {base : Nat} {spare : Nat → Bool} {held : Bool}
theorem weightsAll_mem {P : Program} {e : TypeId} : ∀ {ds : List (DataW H)} {j : Nat} {d : DataW H}, ds[j]? = some d → ∀ n ∈ d.weights P e, n ∈ DataW.weightsAll P e ds
  | d0 :: ds, 0, d, hd, n, hn => by
    simp only [List.getElem?_cons_zero, Option.some.injEq] at hd
    subst hd
    simp only [DataW.weightsAll, List.mem_append]
    exact Or.inl hn
  | d0 :: ds, j + 1, d, hd, n, hn => by
    simp only [List.getElem?_cons_succ] at hd
    simp only [DataW.weightsAll, List.mem_append]
    exact Or.inr (weightsAll_mem hd n hn)
  | [], _, _, hd, _, _ => by simp at hd
variable (enc W base spare held)
def SRow (fuel : Nat) : Prop := ∀ cs x, DataW.trod enc Tryd.prog W base spare held fuel 29 cs = some x → (∀ n ∈ x.1.weights Tryd.prog 29, n ≤ reachBytes) →
  ∃ A l c, cs = [.slice A (l : List PA.S31).length c] ∧ l.length ≤ c ∧ YtddmddlaamcpiaaDoorW.PrintWords.Kd.C PA.k31 W A l.length l ∧ dtl l
def NRow (fuel : Nat) : Prop := ∀ cs x, DataW.trod enc Tryd.prog W base spare held fuel 31 cs = some x → (∀ n ∈ x.1.weights Tryd.prog 31, n ≤ reachBytes) →
  ∃ (q : PA.S31) (A6 : Option Addr) (c6 : Nat), cs = [.int .i64 q.f0, .string q.f1, .string q.f2, .int .i64 q.f3, .int .i64 q.f4, .bool q.f5, .slice A6 q.f6.length c6] ∧ q.f6.length ≤ c6 ∧ YtddmddlaamcpiaaDoorW.PrintWords.Kd.C PA.k31 W A6 q.f6.length q.f6 ∧ dt1 q
variable {enc W base spare held}
theorem i64_wf {n : Int} (h : (Lit.int .i64 n).wf = true) : i64 n := by
  unfold i64
  simp [Lit.wf, IntKind.min, IntKind.max] at h
  first | omega | (simp [IntKind.signed, IntKind.bits] at h; omega)
theorem cs_int : Tryd.prog.cellsOf 3 = 1 := by kernel_rfl
theorem cs_str : Tryd.prog.cellsOf 9 = 1 := by kernel_rfl
theorem cs_bool : Tryd.prog.cellsOf 4 = 1 := by kernel_rfl
theorem cs_sl : Tryd.prog.cellsOf 29 = 1 := by kernel_rfl
theorem cs_nd : Tryd.prog.cellsOf 31 = 7 := by kernel_rfl
set_option maxRecDepth 100000 in
theorem node_val {fuel : Nat} (ih : ∀ m, m < fuel → SRow enc W base spare held m) : NRow enc W base spare held fuel := by
  intro cs x h hw
  obtain ⟨xs, n, rfl, rfl, hcl, hxl, hf⟩ := DataW.trod_struct Tryd.underlying31 h
  rw [cs_nd] at hcl
  match xs, hxl, cs, hcl with
  | [y0, y1, y2, y3, y4, y5, y6], _, [v0, v1, v2, v3, v4, v5, v6], _ =>
    have g0 := hf 0 _ rfl
    have g1 := hf 1 _ rfl
    have g2 := hf 2 _ rfl
    have g3 := hf 3 _ rfl
    have g4 := hf 4 _ rfl
    have g5 := hf 5 _ rfl
    have g6 := hf 6 _ rfl
    simp [cs_int, cs_str, cs_bool, cs_sl] at g0 g1 g2 g3 g4 g5 g6
    obtain ⟨s0, e0, _, _⟩ := DataW.trod_int Tryd.underlying3 g0
    obtain ⟨s1, e1, rfl, _⟩ := DataW.trod_string Tryd.underlying9 g1
    obtain ⟨s2, e2, rfl, _⟩ := DataW.trod_string Tryd.underlying9 g2
    obtain ⟨s3, e3, _, w3⟩ := DataW.trod_int Tryd.underlying3 g3
    obtain ⟨s4, e4, _, w4⟩ := DataW.trod_int Tryd.underlying3 g4
    obtain ⟨s5, e5, _⟩ := DataW.trod_bool Tryd.underlying4 g5
    have hwe : ∀ (j : Nat) (t : TypeId) (d : DataW H), ([3, 9, 9, 3, 3, 4, 29] : List TypeId)[j]? = some t → ([y0.1, .lit (.string s1.data.toList), .lit (.string s2.data.toList), y3.1, y4.1, y5.1, y6.1] : List (DataW H))[j]? = some d → ∀ n ∈ d.weights Tryd.prog t, n ≤ reachBytes := by
      intro j t d ht hd n hn
      refine hw n ?_
      simp only [DataW.weights, Tryd.underlying31]
      exact DataW.weights_mem_each (ts := [3, 9, 9, 3, 3, 4, 29]) ht hd n hn
    obtain ⟨A6, l6, c6, e6, hc6, hk6, hd6⟩ := ih n (by omega) _ _ g6 (hwe 6 29 _ rfl rfl)
    have z1 := hwe 1 9 _ rfl rfl s1.data.toList.length (by simp [DataW.weights])
    have z2 := hwe 2 9 _ rfl rfl s2.data.toList.length (by simp [DataW.weights])
    simp at e0 e1 e2 e3 e4 e5 e6
    subst e0 e1 e2 e3 e4 e5 e6
    refine ⟨⟨s0, s1, s2, s3, s4, s5, l6⟩, A6, c6, rfl, hc6, hk6, ?_⟩
    rw [dt1]
    exact ⟨⟨i64_wf w3, i64_wf w4, by rw [Array.length_toList] at z1; exact z1, by rw [Array.length_toList] at z2; exact z2⟩, hd6⟩
set_option maxRecDepth 100000 in
theorem nodes_row : ∀ fuel, SRow enc W base spare held fuel := by
  intro fuel
  induction fuel using Nat.strongRecOn with
  | _ fuel ih =>
  intro cs x h hw
  rcases DataW.trod_slice Tryd.underlying29 h with ⟨rfl, rfl⟩ | ⟨ad, len, cap, elems, rest, n, rfl, rfl, rfl, hb, hl, hm, hlen, hel, _, _⟩
  · exact ⟨none, [], 0, rfl, Nat.le_refl _, ⟨rfl, by simp, fun h => absurd h (by simp)⟩, by rw [dtl]; trivial⟩
  · have each : ∀ i, i < len → ∃ (q : PA.S31) (cs : List Value), PA.k31.K W q cs ∧ dt1 q ∧ ∀ j u, cs[j]? = some u → W.cell? (ad.add (i * 7 + j)) = some u := by
      intro i hi
      have h1 := hel i hi
      have hi2 : i < elems.length := by omega
      rw [List.getElem?_eq_getElem hi2, cs_nd] at h1
      obtain ⟨cs', hc, h2⟩ := Option.bind_eq_some_iff.1 h1
      have hwe : ∀ n ∈ elems[i].1.weights Tryd.prog 31, n ≤ reachBytes := by
        intro n hn
        refine hw n ?_
        simp only [DataW.weights, Tryd.underlying29]
        refine List.mem_cons_of_mem _ (List.mem_append.2 (.inl (weightsAll_mem (j := i) (d := elems[i].1) ?_ n hn)))
        rw [List.getElem?_map, List.getElem?_eq_getElem hi2]
        rfl
      obtain ⟨q, A6, c6, rfl, hc6, hk6, hd⟩ := node_val (fun m hm => ih m (by omega)) _ _ h2 hwe
      obtain ⟨_, hlen', hcell⟩ := World.cells?_some hc
      refine ⟨q, _, PA.k31_mk W q hc6 hk6, hd, fun j u hj => ?_⟩
      have hj7 : j < 7 := by
        have := (List.getElem?_eq_some_iff.1 hj).1
        simpa using this
      have := hcell j hj7
      rw [Go.Deep.add_add] at this
      rw [this]
      exact hj
    haveI : Inhabited PA.S31 := ⟨PA.z31⟩
    obtain ⟨q, hq⟩ := Go.Deep.choose_lt each
    refine ⟨some ad, (List.range len).map q, cap, by simp, by simpa using hl, ⟨rfl, by simp; unfold maxLen at hm; omega, fun _ => ⟨ad, rfl, fun j p hj => ?_⟩⟩, ?_⟩
    · obtain ⟨hjl, hp⟩ := List.getElem?_eq_some_iff.1 hj
      have hjl2 : j < len := by simpa using hjl
      have hp2 : q j = p := by simpa using hp
      subst hp2
      obtain ⟨cs', hK, _, hc⟩ := hq j hjl2
      refine ⟨cs', ?_, hK, fun i u hi => hc i u hi⟩
      obtain ⟨A6, c6, rfl, _, _⟩ := PA.k31_open hK
      rfl
    · refine dtl_of fun x hx => ?_
      obtain ⟨j, hj, rfl⟩ := List.mem_map.1 hx
      obtain ⟨_, _, hd, _⟩ := hq j (List.mem_range.1 hj)
      exact hd
end
end Go.Proofs.YtddmddlaamcpiaaDoor.RowU8

namespace Go.Proofs.YtddmddlaamcpiaaDoor.PA
open Go.RowKit Go.Proofs.YtddmddlaamcpiaaDoor.Pl Go.Proofs.YtddmddlaamcpiaaDoorW.PrintWords Go.Proofs.YtddmddlaamcpiaaDoorW.PrintLast Go.Proofs.YtddmddlaamcpiaaDoorW.PrintMore
set_option linter.unusedVariables false

theorem heapNd : Kd.Heap k31 := Kd.heap_fix fun d hd => Kd.heap_iso _ (Kd.heap_pair (Kd.heap_int _) (Kd.heap_pair Kd.heap_string (Kd.heap_pair Kd.heap_string (Kd.heap_pair (Kd.heap_int _) (Kd.heap_pair (Kd.heap_int _) (Kd.heap_pair Kd.heap_bool (Kd.heap_slice _ hd)))))))
/-- A node's cells. -/
abbrev ncs (x : Nd) (A6 : Option Addr) (c6 : Nat) : Array Value := #[.int .i64 x.f0, .string x.f1, .string x.f2, .int .i64 x.f3, .int .i64 x.f4, .bool x.f5, .slice A6 x.f6.length c6]
structure NdAt (o : Nat) (x : Nd) (A6 : Option Addr) (c6 : Nat) (w : World) : Prop where
  d0 : w.cell? ⟨o, 0, none⟩ = some (.int .i64 x.f0)
  d1 : w.cell? ⟨o, 1, none⟩ = some (.string x.f1)
  d2 : w.cell? ⟨o, 2, none⟩ = some (.string x.f2)
  d3 : w.cell? ⟨o, 3, none⟩ = some (.int .i64 x.f3)
  d4 : w.cell? ⟨o, 4, none⟩ = some (.int .i64 x.f4)
  d5 : w.cell? ⟨o, 5, none⟩ = some (.bool x.f5)
  d6 : w.cell? ⟨o, 6, none⟩ = some (.slice A6 x.f6.length c6)
theorem ndAt {o : Nat} {x : Nd} {A6 : Option Addr} {c6 : Nat} {w : World} (h : w.heap[o]? = some (.cells (ncs x A6 c6) 31 (0, 0))) : NdAt o x A6 c6 w := ⟨(Lib.cell_of_heap h 0).trans rfl, (Lib.cell_of_heap h 1).trans rfl, (Lib.cell_of_heap h 2).trans rfl, (Lib.cell_of_heap h 3).trans rfl, (Lib.cell_of_heap h 4).trans rfl, (Lib.cell_of_heap h 5).trans rfl, (Lib.cell_of_heap h 6).trans rfl⟩
/-- A row of nodes that lies, with all that it leads to, in ok. -/
abbrev FN (W : World) (ok : Nat → Prop) (A : Option Addr) (l : List Nd) : Prop := Kd.F k31 W ok A l.length l
/-- A row of nodes of the call's own. -/
abbrev NN (W : World) (base : Nat) (ok : Nat → Prop) (v : Value) (l : List Nd) : Prop := Kd.N k31 31 W base ok v l
theorem fk_mk {W : World} {ok : Nat → Prop} {x : Nd} {A6 : Option Addr} {c6 : Nat} (hc : x.f6.length ≤ c6) (h : FN W ok A6 x.f6) : Kd.FK k31 W ok x [.int .i64 x.f0, .string x.f1, .string x.f2, .int .i64 x.f3, .int .i64 x.f4, .bool x.f5, .slice A6 x.f6.length c6] := fun W' hW => k31_mk W' x hc (h W' hW)
theorem fn_nil (W : World) (ok : Nat → Prop) : FN W ok none [] := Kd.F_nil _ _ _
theorem fn_one {W : World} {ok : Nat → Prop} {x : Nd} {A6 : Option Addr} {c6 b : Nat} (hb : W.heap[b]? = some (.cells (ncs x A6 c6) 31 (0, 0))) (hc : x.f6.length ≤ c6) (h : FN W ok A6 x.f6) (hok : ok b) : FN W ok (some ⟨b, 0, none⟩) [x] := fun W' hW => by
  have hlt := (Array.getElem?_eq_some_iff.1 hb).1
  have hd := ndAt ((hW b hok hlt).trans hb)
  refine ⟨rfl, by simp, fun _ => ⟨⟨b, 0, none⟩, rfl, fun j p hj => ?_⟩⟩
  have hj0 : j = 0 := by
    have := (List.getElem?_eq_some_iff.1 hj).1
    simpa using this
  subst hj0
  obtain rfl : x = p := by simpa using hj
  refine ⟨_, rfl, k31_mk _ x hc (h W' hW), fun i u hu => ?_⟩
  match i, hu with
  | 0, hu => simp at hu; subst hu; exact hd.d0
  | 1, hu => simp at hu; subst hu; exact hd.d1
  | 2, hu => simp at hu; subst hu; exact hd.d2
  | 3, hu => simp at hu; subst hu; exact hd.d3
  | 4, hu => simp at hu; subst hu; exact hd.d4
  | 5, hu => simp at hu; subst hu; exact hd.d5
  | 6, hu => simp at hu; subst hu; exact hd.d6
/-- An element of such a row. -/
structure ElAt (ad : Addr) (x : Nd) (A6 : Option Addr) (c6 : Nat) (w : World) : Prop where
  x0 : w.cell? ad = some (.int .i64 x.f0)
  x1 : w.cell? ⟨ad.block, ad.off + 1, none⟩ = some (.string x.f1)
  x2 : w.cell? ⟨ad.block, ad.off + 2, none⟩ = some (.string x.f2)
  x3 : w.cell? ⟨ad.block, ad.off + 3, none⟩ = some (.int .i64 x.f3)
  x4 : w.cell? ⟨ad.block, ad.off + 4, none⟩ = some (.int .i64 x.f4)
  x5 : w.cell? ⟨ad.block, ad.off + 5, none⟩ = some (.bool x.f5)
  x6 : w.cell? ⟨ad.block, ad.off + 6, none⟩ = some (.slice A6 x.f6.length c6)
theorem fn_at {W : World} {ok : Nat → Prop} {A : Option Addr} {l : List Nd} (h : FN W ok A l) {i : Nat} (hi : i < l.length) :
    ∃ ad A6 c6, A = some ad ∧ l[i].f6.length ≤ c6 ∧ FN W ok A6 l[i].f6 ∧ ElAt (ad.add (i * 7)) l[i] A6 c6 W := by
  obtain ⟨ad, c, e, hcl, hK, hcc, _⟩ := Kd.F_get h z31 (i : Int) (by omega) (by omega)
  have hg : l.getD (i : Int).toNat z31 = l[i] := by rw [Int.toNat_natCast, List.getD_eq_getElem?_getD, List.getElem?_eq_getElem hi]; rfl
  rw [hg] at hK
  rw [Int.toNat_natCast] at hcc
  obtain ⟨A6, c6, rfl, hl6, _⟩ := k31_open (Kd.FK_now hK)
  have hcc : ∀ j u, _ → W.cell? (ad.add (i * 7 + j)) = some u := hcc
  refine ⟨ad, A6, c6, e, hl6, fun W' hW => ?_, ?_⟩
  · obtain ⟨A', c', he, _, hC⟩ := k31_open (hK W' hW)
    have h6 : (Value.slice A6 l[i].f6.length c6) = .slice A' l[i].f6.length c' := by
      have := congrArg (fun z : List Value => z[6]?) he
      simpa using this
    injection h6 with h6
    rw [h6]
    exact hC
  · exact ⟨hcc 0 _ rfl, by rw [← add_field _ _ 1 (by omega)]; exact hcc 1 _ rfl, by rw [← add_field _ _ 2 (by omega)]; exact hcc 2 _ rfl, by rw [← add_field _ _ 3 (by omega)]; exact hcc 3 _ rfl, by rw [← add_field _ _ 4 (by omega)]; exact hcc 4 _ rfl, by rw [← add_field _ _ 5 (by omega)]; exact hcc 5 _ rfl, by rw [← add_field _ _ 6 (by omega)]; exact hcc 6 _ rfl⟩
theorem fn_came {W : World} {A : Option Addr} {l : List Nd} (h : Kd.C k31 W A l.length l) : FN W (fun k => k < W.heap.size) A l := Kd.C_F heapNd h
theorem fn_now {W : World} {ok : Nat → Prop} {A : Option Addr} {l : List Nd} (h : FN W ok A l) : Kd.C k31 W A l.length l := Kd.F_now h
theorem el_below {ad : Addr} {x : Nd} {A6 : Option Addr} {c6 : Nat} {W W' : World} (h : ElAt ad x A6 c6 W) (hb : Below W.heap.size W W') : ElAt ad x A6 c6 W' := by
  have go : ∀ {a : Addr} {v : Value}, W.cell? a = some v → W'.cell? a = some v := fun {a v} h => (hb.cell (World.block_lt_of_cell? W _ h)).trans h
  exact ⟨go h.x0, go h.x1, go h.x2, go h.x3, go h.x4, go h.x5, go h.x6⟩
theorem infoNd : (Tryd.prog.info? 31).map (fun i => (i.zero, i.size, i.bytes)) = some (some (.agg #[.int .i64 0, .string ⟨#[]⟩, .string ⟨#[]⟩, .int .i64 0, .int .i64 0, .bool false, .slice none 0 0]), k31.sz, 88) := by kernel_rfl
end Go.Proofs.YtddmddlaamcpiaaDoor.PA

namespace Go.Proofs.YtddmddlaamcpiaaDoor.PA
open Go.RowKit Go.Proofs.YtddmddlaamcpiaaDoor.Pl Go.Proofs.YtddmddlaamcpiaaDoorW.PrintWords Go.Proofs.YtddmddlaamcpiaaDoorW.PrintLast Go.Proofs.YtddmddlaamcpiaaDoorW.PrintMore
set_option linter.unusedVariables false

/-- A Text. -/
abbrev txt (s : ByteArray) : Nd := ⟨14, s, ⟨#[]⟩, 0, 0, false, []⟩
theorem text_calls (s : ByteArray) (w : World) :
    Calls Tryd.prog 27 #[.string s] w fun e w' => e = .returned (.agg #[.int .i64 14, .string s, .string ⟨#[]⟩, .int .i64 0, .int .i64 0, .bool false, .slice none 0 0]) ∧ Below w.heap.size w w' := by
  go_enter Tryd.func27, Tryd.ntmps27
  go_wp2
  refine bodyPost_ret (results_cell_row rfl _ _ w.heap.size 31 #[.int .i64 14, .string s, .string ⟨#[]⟩, .int .i64 0, .int .i64 0, .bool false, .slice none 0 0] (0, 0) _ rfl (heap_alloc_new w _) Tryd.underlying31 rfl (by kernel_rfl)) rfl ?_
  exact ⟨rfl, below_alloc (Below.refl _ _) _⟩
/-- What the closure works on, behind V: in its blocks the number at and the row L. -/
structure Ls (V : World) (at' : Nat) (L : List Nd) (W : World) : Prop where
  bel : Below V.heap.size V W
  lt : V.heap.size + 2 ≤ W.heap.size
  ba : W.heap[V.heap.size + 1]? = some (.cells #[.int .i64 at'] 3 (0, 0))
  bo : ∃ v, W.heap[V.heap.size]? = some (.cells #[v] 29 (0, 0)) ∧ NN W V.heap.size (fun k => V.heap.size + 2 ≤ k) v L
/-- .. its row's value told. -/
structure Lv (V : World) (at' : Nat) (L : List Nd) (v : Value) (W : World) : Prop where
  bel : Below V.heap.size V W
  lt : V.heap.size + 2 ≤ W.heap.size
  ba : W.heap[V.heap.size + 1]? = some (.cells #[.int .i64 at'] 3 (0, 0))
  bo : W.heap[V.heap.size]? = some (.cells #[v] 29 (0, 0))
  row : NN W V.heap.size (fun k => V.heap.size + 2 ≤ k) v L
section
variable {V W W' : World} {at' : Nat} {L : List Nd} {v : Value}
theorem Lv.step (h : Lv V at' L v W) (hb : Below W.heap.size W W') : Lv V at' L v W' :=
  ⟨below_step h.bel hb, Nat.le_trans h.lt hb.size, (hb.block _ (Array.getElem?_eq_some_iff.1 h.ba).1).trans h.ba, (hb.block _ (Array.getElem?_eq_some_iff.1 h.bo).1).trans h.bo, Kd.N_below h.row hb⟩
theorem Lv.drew (h : Lv V at' L v W) : Lv V at' L v W.drew := h.step (below_drew (Below.refl _ _))
theorem Lv.alloc (h : Lv V at' L v W) (o : Obj) : Lv V at' L v (W.alloc o) := h.step (below_alloc (Below.refl _ _) _)
theorem Lv.c0 (h : Lv V at' L v W) : W.cell? ⟨V.heap.size, 0, none⟩ = some v := (Lib.cell_of_heap h.bo 0).trans rfl
theorem Lv.c1 (h : Lv V at' L v W) : W.cell? ⟨V.heap.size + 1, 0, none⟩ = some (.int .i64 at') := (Lib.cell_of_heap h.ba 0).trans rfl
theorem Lv.cn (h : Lv V at' L v W) {bn : Nat} {x : Nd} {A : Option Addr} {c : Nat} (hn : V.heap[bn]? = some (.cells (ncs x A c) 31 (0, 0))) : W.heap[bn]? = some (.cells (ncs x A c) 31 (0, 0)) := (h.bel.block _ (Array.getElem?_eq_some_iff.1 hn).1).trans hn
theorem Lv.f0 (h : Lv V at' L v W) : W.frozen? ⟨V.heap.size, 0, none⟩ = false := Lib.frozen_of_heap h.bo 0
/-- Behind an append. -/
theorem Lv.grown (h : Lv V at' L v W) {v' : Value} {L' : List Nd} (hb : Below V.heap.size V W') (hg : W.grownBy W' v.ownBlock) (hn : NN W' V.heap.size (fun k => V.heap.size + 2 ≤ k) v' L') :
    Below V.heap.size V W' ∧ V.heap.size + 2 ≤ W'.heap.size ∧ W'.heap[V.heap.size + 1]? = some (.cells #[.int .i64 at'] 3 (0, 0)) ∧ W'.heap[V.heap.size]? = some (.cells #[v] 29 (0, 0)) ∧ NN W' V.heap.size (fun k => V.heap.size + 2 ≤ k) v' L' :=
  ⟨hb, Nat.le_trans h.lt hg.size, (hg.block _ (Array.getElem?_eq_some_iff.1 h.ba).1 fun e => by have := h.row.1 _ e.symm; omega).trans h.ba, (hg.block _ (Array.getElem?_eq_some_iff.1 h.bo).1 fun e => by have := h.row.1 _ e.symm; omega).trans h.bo, hn⟩
end
theorem Ls.v {V W : World} {at' : Nat} {L : List Nd} (h : Ls V at' L W) : ∃ v, Lv V at' L v W := by
  obtain ⟨v, h1, h2⟩ := h.bo
  exact ⟨v, h.bel, h.lt, h.ba, h1, h2⟩
/-- An element of a row of the call's own is written whole. -/
theorem nn_put {W : World} {base g n cap : Nat} {ok okp : Nat → Prop} {l : List Nd} {z x : Nd} {A6 : Option Addr} {c6 : Nat} (h : NN W base ok (.slice (some ⟨g, 0, none⟩) n cap) (l ++ [z])) (hc : x.f6.length ≤ c6) (hx : FN W okp A6 x.f6) (hokp : ∀ k, okp k → ok k ∧ k ≠ g) :
    NN (W.setCells g (l.length * 7) (ncs x A6 c6).toList) base ok (.slice (some ⟨g, 0, none⟩) n cap) (l ++ [x]) ∧ W.grownBy (W.setCells g (l.length * 7) (ncs x A6 c6).toList) (some g) := by
  have hn := (Kd.N_reads' h).1
  rw [List.length_append, List.length_singleton] at hn
  obtain ⟨c, hcl, hM, hcc, _⟩ := Kd.N_elem h z31 (l.length : Int) (by omega) (by omega)
  have hcl : c.length = 7 := hcl
  have h2 := Kd.N_seg h (l.length : Int) (by omega) (by omega) (c := c) (seg := (ncs x A6 c6).toList) (j := 0) (x' := x) (okp := okp) hcl hcc (by show 0 + 7 ≤ 7; omega) (by
    have e : c.take 0 ++ (ncs x A6 c6).toList ++ c.drop (0 + (ncs x A6 c6).toList.length) = (ncs x A6 c6).toList := by
      rw [List.take_zero, List.nil_append, List.drop_eq_nil_of_le (by rw [hcl]; exact Nat.le_refl _), List.append_nil]
    rw [e]
    exact fk_mk hc hx) hokp
  rw [Int.toNat_natCast, List.set_append_right _ _ (Nat.le_refl _), Nat.sub_self] at h2
  exact h2
/-- The cells of the last element of a row of the call's own. -/
theorem nn_last {W : World} {base g n cap : Nat} {ok : Nat → Prop} {l : List Nd} {z : Nd} (h : NN W base ok (.slice (some ⟨g, 0, none⟩) n cap) (l ++ [z])) :
    (∀ j, j < 7 → ∃ u, W.cell? ⟨g, l.length * 7 + j, none⟩ = some u) ∧ ∀ j, W.frozen? ⟨g, l.length * 7 + j, none⟩ = false := by
  have hn := (Kd.N_reads' h).1
  rw [List.length_append, List.length_singleton] at hn
  obtain ⟨c, hcl, hM, hcc, hf⟩ := Kd.N_elem h z31 (l.length : Int) (by omega) (by omega)
  have hcl : c.length = 7 := hcl
  rw [Int.toNat_natCast] at hcc hf
  exact ⟨fun j hj => ⟨c[j]'(by omega), hcc j _ (List.getElem?_eq_getElem (by omega))⟩, hf⟩
/-- Between the append and its stores: the variable holds v0, the row is v1. -/
structure Md (V : World) (at' : Nat) (L : List Nd) (v0 v1 : Value) (W : World) : Prop where
  bel : Below V.heap.size V W
  lt : V.heap.size + 2 ≤ W.heap.size
  ba : W.heap[V.heap.size + 1]? = some (.cells #[.int .i64 at'] 3 (0, 0))
  bo : W.heap[V.heap.size]? = some (.cells #[v0] 29 (0, 0))
  row : NN W V.heap.size (fun k => V.heap.size + 2 ≤ k) v1 L
section
variable {V W : World} {at' : Nat} {L : List Nd} {v0 v1 : Value}
theorem Md.ls (h : Md V at' L v1 v1 W) : Ls V at' L W := ⟨h.bel, h.lt, h.ba, v1, h.bo, h.row⟩
theorem Lv.md (h : Lv V at' L v0 W) {W' : World} {L' : List Nd} (hb : Below V.heap.size V W') (hg : W.grownBy W' v0.ownBlock) (hn : NN W' V.heap.size (fun k => V.heap.size + 2 ≤ k) v1 L') : Md V at' L' v0 v1 W' := by
  obtain ⟨q1, q2, q3, q4, q5⟩ := h.grown hb hg hn
  exact ⟨q1, q2, q3, q4, q5⟩
theorem sc_below {b : Nat} (seg : List Value) (o : Nat) (h : V.heap.size ≤ b) (hb : Below V.heap.size V W) : Below V.heap.size V (W.setCells b o seg) := by
  obtain ⟨s1, s2, s3, s4⟩ := setCells_same b seg o W
  exact ⟨s1.trans hb.os, s2.trans hb.tape, s3.trans hb.output, by rw [s4]; exact hb.size, fun k hk => (setCells_far seg o k (by omega)).trans (hb.block k hk)⟩
theorem Md.out (h : Md V at' L v0 v1 W) : Md V at' L v1 v1 (W.setCells V.heap.size 0 [v1]) := by
  obtain ⟨s1, s2, s3, s4⟩ := setCells_same V.heap.size [v1] 0 W
  obtain ⟨cur, h1, h2, h3⟩ := setCells_row [v1] 0 W #[v0] h.bo (by simp)
  have e : cur = #[v1] := by
    apply Array.toList_inj.1
    simpa using h3
  subst e
  exact ⟨sc_below _ _ (Nat.le_refl _) h.bel, by rw [s4]; exact h.lt, (setCells_far _ _ _ (by omega)).trans h.ba, h1, Kd.N_step h.row fun k hk _ => setCells_far _ _ _ (by omega)⟩
theorem Md.put {g n cap : Nat} {x z : Nd} {A6 : Option Addr} {c6 : Nat} {okp : Nat → Prop} (h : Md V at' (L ++ [z]) v0 (.slice (some ⟨g, 0, none⟩) n cap) W) (hc : x.f6.length ≤ c6) (hx : FN W okp A6 x.f6) (hokp : ∀ k, okp k → V.heap.size + 2 ≤ k ∧ k ≠ g) : Md V at' (L ++ [x]) v0 (.slice (some ⟨g, 0, none⟩) n cap) (W.setCells g (L.length * 7) (ncs x A6 c6).toList) := by
  have hgo := h.row.1 g (by simp [Value.ownBlock])
  obtain ⟨s1, s2, s3, s4⟩ := setCells_same g (ncs x A6 c6).toList (L.length * 7) W
  exact ⟨sc_below _ _ (by omega) h.bel, by rw [s4]; exact h.lt, (setCells_far _ _ _ (by omega)).trans h.ba, (setCells_far _ _ _ (by omega)).trans h.bo, (nn_put h.row hc hx hokp).1⟩
theorem run_out {P : Program} {t : TypeId} (h : Md V at' L v0 v1 W) (ht : (P.info? t).map (·.size) = some 1) (hv : v1.cells.toList = [v1]) (h1 : v1.oneCell' = true) : (Instr.storeAt t (.pointer (some ⟨V.heap.size, 0, none⟩)) v1).run P W = .ok () (W.setCells V.heap.size 0 [v1]) :=
  run_store_run t v1 [v1] h.bo hv (by simpa using ht) (by simp) (fun q hq => by rw [List.mem_singleton.1 hq]; exact h1)
theorem run_put {g n cap : Nat} {z : Nd} {u : Value} {seg : List Value} (h : Md V at' (L ++ [z]) v0 (.slice (some ⟨g, 0, none⟩) n cap) W) (hu : u.cells.toList = seg) (hs : seg.length = 7) (h1 : ∀ q ∈ seg, q.oneCell' = true) : (Instr.storeAt 31 (.pointer (some ⟨g, L.length * 7, none⟩)) u).run Tryd.prog W = .ok () (W.setCells g (L.length * 7) seg) := by
  obtain ⟨g', cap', hv, _, _, cur, hh⟩ := Kd.N_form h.row (by rw [List.length_append, List.length_singleton]; omega)
  injection hv with ha _ _
  injection ha with ha
  injection ha with hg
  subst hg
  obtain ⟨hcs, _⟩ := nn_last h.row
  obtain ⟨u6, h6⟩ := hcs 6 (by omega)
  rw [cell_of_row W g _ cur 31 (0, 0) hh] at h6
  have := (Array.getElem?_eq_some_iff.1 h6).1
  exact run_store_run 31 u seg hh hu (by rw [hs]; kernel_rfl) (by omega) h1
end
/-- Blocks of other types than a row of nodes stay, but for b. -/
def Ty (b : Nat) (W W' : World) : Prop := ∀ k cells t, k ≠ b → t ≠ 31 → W.heap[k]? = some (.cells cells t (0, 0)) → W'.heap[k]? = some (.cells cells t (0, 0))
theorem Ty.trans {b : Nat} {W W1 W2 : World} (h : Ty b W W1) (k : Ty b W1 W2) : Ty b W W2 := fun i c t hi ht hc => k i c t hi ht (h i c t hi ht hc)
theorem Ty.below (b : Nat) {W W1 : World} (h : Below W.heap.size W W1) : Ty b W W1 := fun i c t hi ht hc => (h.block i (Array.getElem?_eq_some_iff.1 hc).1).trans hc
theorem Ty.grown (b : Nat) {W W1 : World} {base : Nat} {ok : Nat → Prop} {v : Value} {L : List Nd} (hn : NN W base ok v L) (h : W.grownBy W1 v.ownBlock) : Ty b W W1 := fun i c t hi ht hc => (h.block i (Array.getElem?_eq_some_iff.1 hc).1 (Kd.N_ne hn hc (Ne.symm ht))).trans hc
theorem Ty.at (b : Nat) (W : World) (o : Nat) (seg : List Value) : Ty b W (W.setCells b o seg) := fun i c t hi ht hc => (setCells_far seg o i hi).trans hc
theorem Ty.row (b : Nat) {W : World} {base : Nat} {ok : Nat → Prop} {g n cap : Nat} {L : List Nd} (hn : NN W base ok (.slice (some ⟨g, 0, none⟩) n cap) L) (o : Nat) (seg : List Value) : Ty b W (W.setCells g o seg) := fun i c t hi ht hc => (setCells_far seg o i fun e => by
  subst e
  exact Kd.N_ne hn hc (Ne.symm ht) (by simp [Value.ownBlock])).trans hc
/-- What the closure leaves. -/
structure Lyd (V : World) (at' : Nat) (L : List Nd) (W W' : World) : Prop where
  ls : Ls V at' L W'
  ty : Ty V.heap.size W W'
/-- A store, its run told. -/
theorem store_ {P : Program} {o : Oper} {a : Act} {w w1 : World} (t : TypeId) (p x : Operand) (ho : o.op = .store t p x) {ad : Value} {u : Value} (hp : a.eval p = ad) (hx : a.eval x = u) (hrun : (Instr.storeAt t ad u).run P w = .ok () w1) : (execOp a.eval o).run P w = .ok .skip w1 := by
  unfold execOp
  simp only [ho, hp, hx, Sem.run_bind, Sem.run_pure, Result.andThen_ok, hrun]
/-- Two of those behind which nothing is shown may come up. -/
theorem two_last_ {P : Program} {ops : Array Oper} {Q : Exit → Act → World → Prop} {md : Region.Mode} {S : World → Prop} {ds : List Nat} {i j : Nat} {Ni Nj : Option Tmp} {oi oj : Oper} {fuel : Nat} {l : Array Bool} {a : Act} {w : World} (li lj : Array Bool) (hi : ops[i]? = some oi) (hj : ops[j]? = some oj) (hNi : oi.dst = Ni) (hNj : oj.dst = Nj)
    (hc : (Region.ready md ops l == [i, j] && l.setIfInBounds i true == li && l.setIfInBounds j true == lj) = true) (hdi : i ∈ ds) (hdj : j ∈ ds)
    (h1 : ∀ K : Act → World → Prop, Shut (∀ a' w', wpAnyLast P md ops Q S ds fuel li a' w' → K a' w') → if Region.wanted oi (yielded ops a.tmps) = true then Oper.wp P oi a w K Q else K (a.put Ni undef) w)
    (h2 : ∀ K : Act → World → Prop, Shut (∀ a' w', wpAnyLast P md ops Q S ds fuel lj a' w' → K a' w') → if Region.wanted oj (yielded ops a.tmps) = true then Oper.wp P oj a w K Q else K (a.put Nj undef) w) :
    wpAnyLast P md ops Q S ds (fuel + 1) l a w := by
  subst hNi
  subst hNj
  simp only [Bool.and_eq_true, beq_iff_eq] at hc
  obtain ⟨⟨h3, h4⟩, h5⟩ := hc
  subst h4
  subst h5
  exact wpAnyLast_ready h3 (by simp) (AllReadyL.cons_last hi hdi (fun K hK => h1 K hK) (AllReadyL.cons_last hj hdj (fun K hK => h2 K hK) AllReadyL.nil))
set_option maxHeartbeats 400000 in
set_option maxRecDepth 100000 in
theorem lay_yes {V W : World} {bn : Nat} {x : Nd} {A : Option Addr} {c : Nat} (hn : V.heap[bn]? = some (.cells (ncs x A c) 31 (0, 0))) {at' : Nat} (tt : Nat) {L : List Nd} {v : Value} (h : Lv V at' L v W) (hlt : at' < tt) (hto : tt ≤ x.f1.size) (hs : x.f1.size ≤ 1048576) (hL : L.length ≤ 1048576) :
    Calls Tryd.prog 26 #[.int .i64 tt, .pointer (some ⟨V.heap.size + 1, 0, none⟩), .pointer (some ⟨V.heap.size, 0, none⟩), .pointer (some ⟨bn, 0, none⟩)] W fun e w' => e = .returned (.tuple #[]) ∧ Lyd V at' (L ++ [txt (x.f1.extract at' tt)]) W w' := by
  have HV := Aside0.mk h
  have HN := Aside0.mk hn
  have k0 := h.c0
  have k1 := h.c1
  have k2 := (ndAt (h.cn hn)).d1
  have f0 := h.f0
  obtain ⟨Av, cv, hv⟩ := Kd.N_slice h.row
  subst hv
  have HL := Aside0.mk hL
  have q1 : decide (at' < tt) = true := decide_eq_true (by omega)
  have p0 := eq_true (show 0 ≤ (at' : Int) from by omega)
  have p1 := eq_true (show (at' : Int) ≤ (tt : Int) from by omega)
  have p2 := eq_true (show (tt : Int) ≤ (x.f1.size : Int) from by omega)
  obtain ⟨R, hR⟩ : ∃ R, Lyd V at' (L ++ [txt (x.f1.extract at' tt)]) W = R := ⟨_, rfl⟩
  have HR := Aside0.mk hR
  rw [hR]
  clear h hn hR hlt hto hs hL
  go_enter Tryd.func26, Tryd.ntmps26
  go_wp2_with fail
  refine start_ (n := 13) (S := fun w' => w'.cell? ⟨V.heap.size, 0, none⟩ = some (.slice Av L.length cv) ∧ w'.cell? ⟨V.heap.size + 1, 0, none⟩ = some (.int .i64 (at' : Int)) ∧ w'.cell? ⟨bn, 1, none⟩ = some (.string x.f1)) (ds := [11, 12]) #[false, false, false, false, false, false, false, false, false, false, false, false, false] (by kernel_rfl) rfl rfl ⟨k0, k1, k2⟩ (fun hHeld => ?_)
  refine take_ (i := 0) (N := some 8) (v := ?_) (a' := ?_) #[true, false, false, false, false, false, false, false, false, false, false, false, false] rfl rfl (by kernel_rfl) (fun _ _ _ h => h) (Or.inl ⟨by rfl, ?_⟩) hHeld ?_ ?_
  rotate_left
  · rintro w' ⟨s0, s1, s2⟩
    go_simp
    with_reducible rfl
  rotate_left
  · simp only [Act.put, List.setIfInBounds_toArray, List.set_cons_zero, List.set_cons_succ]
    rfl
  refine pure_ (i := 1) (N := some 9) (v := ?_) (a' := ?_) #[true, true, false, false, false, false, false, false, false, false, false, false, false] rfl rfl (by kernel_rfl) (fun _ _ _ h => h) (Or.inl ⟨by rfl, ?_⟩) ?_ ?_
  rotate_left
  · intro w'
    go_simp
    with_reducible rfl
  rotate_left
  · simp only [Act.put, List.setIfInBounds_toArray, List.set_cons_zero, List.set_cons_succ]
    rfl
  refine take_ (i := 2) (N := some 10) (v := ?_) (a' := ?_) #[true, true, true, false, false, false, false, false, false, false, false, false, false] rfl rfl (by kernel_rfl) (fun _ _ _ h => h) (Or.inl ⟨by rfl, ?_⟩) hHeld ?_ ?_
  rotate_left
  · rintro w' ⟨s0, s1, s2⟩
    go_simp
    with_reducible rfl
  rotate_left
  · simp only [Act.put, List.setIfInBounds_toArray, List.set_cons_zero, List.set_cons_succ]
    rfl
  refine take_ (i := 3) (N := some 11) (v := ?_) (a' := ?_) #[true, true, true, true, false, false, false, false, false, false, false, false, false] rfl rfl (by kernel_rfl) (fun _ _ _ h => h) (Or.inl ⟨by rfl, ?_⟩) hHeld ?_ ?_
  rotate_left
  · rintro w' ⟨s0, s1, s2⟩
    go_simp
    with_reducible rfl
  rotate_left
  · simp only [Act.put, List.setIfInBounds_toArray, List.set_cons_zero, List.set_cons_succ]
    rfl
  refine pure_ (i := 4) (N := some 12) (v := ?_) (a' := ?_) #[true, true, true, true, true, false, false, false, false, false, false, false, false] rfl rfl (by kernel_rfl) (fun _ _ _ h => h) (Or.inl ⟨by rfl, ?_⟩) ?_ ?_
  rotate_left
  · intro w'
    go_simp
    with_reducible rfl
  rotate_left
  · simp only [Act.put, List.setIfInBounds_toArray, List.set_cons_zero, List.set_cons_succ]
    rfl
  refine pure_ (i := 5) (N := some 13) (v := ?_) (a' := ?_) #[true, true, true, true, true, true, false, false, false, false, false, false, false] rfl rfl (by kernel_rfl) (fun _ _ _ h => h) (Or.inl ⟨by rfl, ?_⟩) ?_ ?_
  rotate_left
  · intro w'
    go_simp
    with_reducible rfl
  rotate_left
  · simp only [Act.put, List.setIfInBounds_toArray, List.set_cons_zero, List.set_cons_succ]
    rfl
  refine pure_ (i := 7) (N := some 15) (v := ?_) (a' := ?_) #[true, true, true, true, true, true, false, true, false, false, false, false, false] rfl rfl (by kernel_rfl) (fun _ _ _ h => h) (Or.inl ⟨by rfl, ?_⟩) ?_ ?_
  rotate_left
  · intro w'
    go_simp
    with_reducible rfl
  rotate_left
  · simp only [Act.put, List.setIfInBounds_toArray, List.set_cons_zero, List.set_cons_succ]
    rfl
  refine join_ 4 #[true, true, true, true, true, true, true, true, true, false, false, false, false] (fun z : Nat => [(14, (.agg #[.int .i64 14, .string (x.f1.extract at' tt), .string ⟨#[]⟩, .int .i64 0, .int .i64 0, .bool false, .slice none 0 0])), (16, .slice (some ⟨z, 0, none⟩) 1 1)]) (fun z w' => Aside0 (Below W.heap.size W w') ∧ Aside0 (Lv V at' L (.slice Av L.length cv) w') ∧ Aside0 (W.heap.size ≤ z) ∧ Aside0 (w'.heap[z]? = some (.cells #[.int .i64 0, .string ⟨#[]⟩, .string ⟨#[]⟩, .int .i64 0, .int .i64 0, .bool false, .slice none 0 0] 31 (0, 0)))) ?cont ?main
  case main =>
    intro HC
    refine two_ (i := 6) (j := 8) (Ni := some 14) (Nj := some 16) #[true, true, true, true, true, true, true, true, false, false, false, false, false] #[true, true, true, true, true, true, false, true, true, false, false, false, false] rfl rfl rfl rfl (by kernel_rfl) (by decide) (by decide) (fun K hK => ?_) (fun K hK => ?_)
    · refine goes_ Tryd.func27 (by kernel_rfl) rfl #[.string (x.f1.extract at' tt)] (by rfl) rfl rfl (by (try simp only [List.map_toArray, List.map_cons, List.map_nil]); first | done | rfl) ?_
      refine (text_calls (x.f1.extract at' tt) _).mono ?_
      rintro e u1 ⟨rfl, hb⟩
      refine ⟨_, rfl, ?_⟩
      have H1 := Aside0.mk (HV.out.drew.step hb)
      have HZ := Aside0.mk hb.size
      have HBB := Aside0.mk (below_step (below_drew (Below.refl _ W)) hb)
      refine hK.out _ _ ⟨H1.out.c0, H1.out.c1, (ndAt (H1.out.cn HN.out)).d1⟩ (fun hHeld => ?_)
      clear hK K hb
      refine one_ (i := 8) (N := some 16) #[true, true, true, true, true, true, true, true, true, false, false, false, false] rfl rfl (by kernel_rfl) (by decide) (fun K hK => ?_)
      refine value_ (w1 := u1.alloc (.cells #[.int .i64 0, .string ⟨#[]⟩, .string ⟨#[]⟩, .int .i64 0, .int .i64 0, .bool false, .slice none 0 0] 31)) (v := .slice (some ⟨u1.heap.size, 0, none⟩) 1 1) (by rfl) rfl (by go_simp) ?_
      refine hK.out _ _ ⟨(H1.out.alloc _).c0, (H1.out.alloc _).c1, (ndAt ((H1.out.alloc _).cn HN.out)).d1⟩ (fun hHeld => ?_)
      exact HC _ _ ⟨⟨below_alloc HBB.out _⟩, ⟨H1.out.alloc _⟩, ⟨HZ.out⟩, ⟨heap_alloc_new _ _⟩⟩
    · refine value_ (w1 := W.drew.alloc (.cells #[.int .i64 0, .string ⟨#[]⟩, .string ⟨#[]⟩, .int .i64 0, .int .i64 0, .bool false, .slice none 0 0] 31)) (v := .slice (some ⟨W.drew.heap.size, 0, none⟩) 1 1) (by rfl) rfl (by go_simp) ?_
      refine hK.out _ _ ⟨(HV.out.drew.alloc _).c0, (HV.out.drew.alloc _).c1, (ndAt ((HV.out.drew.alloc _).cn HN.out)).d1⟩ (fun hHeld => ?_)
      clear hK K
      refine one_ (i := 6) (N := some 14) #[true, true, true, true, true, true, true, true, true, false, false, false, false] rfl rfl (by kernel_rfl) (by decide) (fun K hK => ?_)
      refine goes_ Tryd.func27 (by kernel_rfl) rfl #[.string (x.f1.extract at' tt)] (by rfl) rfl rfl (by (try simp only [List.map_toArray, List.map_cons, List.map_nil]); first | done | rfl) ?_
      refine (text_calls (x.f1.extract at' tt) _).mono ?_
      rintro e u1 ⟨rfl, hb⟩
      refine ⟨_, rfl, ?_⟩
      have H1 := Aside0.mk ((HV.out.drew.alloc (.cells #[.int .i64 0, .string ⟨#[]⟩, .string ⟨#[]⟩, .int .i64 0, .int .i64 0, .bool false, .slice none 0 0] 31)).step hb)
      refine hK.out _ _ ⟨H1.out.c0, H1.out.c1, (ndAt (H1.out.cn HN.out)).d1⟩ (fun hHeld => ?_)
      exact HC _ _ ⟨⟨below_step (below_alloc (below_drew (Below.refl _ W)) _) hb⟩, ⟨H1.out⟩, ⟨Nat.le_refl _⟩, ⟨(hb.block _ (by rw [World.size_alloc]; exact Nat.lt_succ_self _)).trans (heap_alloc_new _ _)⟩⟩
  case cont =>
    rintro z w' ⟨HBB, H1, HZ, HB⟩
    refine norm_ (a' := ?_) ?_ ?_
    rotate_left
    · show putAll _ _ = _
      simp only [putAll, Act.put, List.setIfInBounds_toArray, List.set_cons_zero, List.set_cons_succ]
      rfl
    refine one_ (i := 9) (N := some 17) #[true, true, true, true, true, true, true, true, true, true, false, false, false] rfl rfl (by kernel_rfl) (by decide) (fun K hK => ?_)
    refine Kd.N_append_rows_step k31 (w0 := V) V.heap.size (by rfl) (.tmp 8) (.tmp 16) 29 31 (.agg #[.int .i64 0, .string ⟨#[]⟩, .string ⟨#[]⟩, .int .i64 0, .int .i64 0, .bool false, .slice none 0 0]) 88 (by rfl) Tryd.underlying29 infoNd rfl (by decide) (by omega) (.slice Av L.length cv) L [z31] (some ⟨z, 0, none⟩) 1 1 (fun k => V.heap.size + 2 ≤ k) (fun k => k = z) (by rfl) (by rfl) H1.out.row ?aR ?aK ?aF H1.out.bel ?aS ?aL ?_
    case aR => exact fn_one (x := z31) HB.out (Nat.zero_le _) (fn_nil _ _) rfl
    case aK => rintro k rfl; exact ⟨by have := HZ.out; have := HV.out.lt; omega, fun e => by have := Kd.N_lt HV.out.row _ e.symm; have := HZ.out; omega⟩
    case aF => exact fun k hk => Nat.le_trans H1.out.lt hk
    case aS => exact H1.out.bel.size
    case aL => have := HL.out; omega
    intro v1 w1 ho hb hg hat
    have hmd := H1.out.md hb hg ho
    have HTY := Aside0.mk ((Ty.below V.heap.size HBB.out).trans (Ty.grown V.heap.size H1.out.row hg))
    refine hK.out _ _ ⟨(Lib.cell_of_heap hmd.bo 0).trans rfl, (Lib.cell_of_heap hmd.ba 0).trans rfl, (ndAt ((hmd.bel.block _ (Array.getElem?_eq_some_iff.1 HN.out).1).trans HN.out)).d1⟩ (fun _ => ?_)
    clear hK K hb hg hat
    obtain ⟨g, cap, rfl, hbg, hgl, cells, hgc⟩ := Kd.N_form ho (by simp)
    have hgo := ho.1 g (by simp [Value.ownBlock])
    have hln : (L ++ [z31]).length = L.length + 1 := by rw [List.length_append, List.length_singleton]
    rw [hln] at hmd ⊢
    have HM := Aside0.mk hmd
    have HG := Aside0.mk hgo
    clear hmd ho hbg hgl hgc hln hgo
    have p3 := eq_true (show 0 ≤ (L.length : Int) from by omega)
    have p4 := eq_true (show (L.length : Int) < (L.length : Int) + 1 from by omega)
    refine norm_ (a' := ?_) ?_ ?_
    rotate_left
    · show Act.put _ (some 17) _ = _
      simp only [Act.put, List.setIfInBounds_toArray, List.set_cons_zero, List.set_cons_succ]
      rfl
    refine pure_ (i := 10) (N := some 18) (v := ?_) (a' := ?_) #[true, true, true, true, true, true, true, true, true, true, true, false, false] rfl rfl (by kernel_rfl) (fun _ _ _ h => h) (Or.inl ⟨by rfl, ?_⟩) ?_ ?_
    rotate_left
    · intro w'
      go_simp
      with_reducible rfl
    rotate_left
    · simp only [Act.put, List.setIfInBounds_toArray, List.set_cons_zero, List.set_cons_succ]
      rfl
    have HX := Aside0.mk (HM.out.put (x := (txt (x.f1.extract at' tt))) (A6 := none) (c6 := 0) (okp := fun _ => False) (Nat.zero_le _) (fn_nil _ _) (fun _ h => h.elim))
    refine two_last_ (i := 11) (j := 12) (oi := { dst := none, op := .store 31 (.tmp 18) (.tmp 14), type := 0, pos := "auto.go:164", after := _, guard := none }) (oj := { dst := none, op := .store 29 (.tmp 2) (.tmp 17), type := 0, pos := "auto.go:164", after := _, guard := none }) (Ni := none) (Nj := none) #[true, true, true, true, true, true, true, true, true, true, true, true, false] #[true, true, true, true, true, true, true, true, true, true, true, false, true] rfl rfl rfl rfl (by kernel_rfl) (by decide) (by decide) (fun K hK => ?_) (fun K hK => ?_)
    · refine skip_ (w1 := w1.setCells g (L.length * 7) (ncs (txt (x.f1.extract at' tt)) none 0).toList) (by rfl) rfl (store_ 31 (.tmp 18) (.tmp 14) rfl (by rfl) (by rfl) (run_put HM.out rfl rfl (by simp [Value.oneCell']))) ?_
      refine hK.out _ _ ?_
      clear hK K
      refine last_ (i := 12) (oi := { dst := none, op := .store 29 (.tmp 2) (.tmp 17), type := 0, pos := "auto.go:164", after := _, guard := none }) (N := none) #[true, true, true, true, true, true, true, true, true, true, true, true, true] rfl rfl (by kernel_rfl) (by decide) (fun K hK => ?_)
      have hr := run_out (P := Tryd.prog) (t := 29) HX.out (by kernel_rfl) rfl rfl
      refine skip_ (w1 := (w1.setCells g (L.length * 7) (ncs (txt (x.f1.extract at' tt)) none 0).toList).setCells V.heap.size 0 [.slice (some ⟨g, 0, none⟩) (L.length + 1) cap]) ?hw ?hd ?hrun ?_
      case hd => rfl
      case hw => rfl
      case hrun =>
        refine store_ 29 (.tmp 2) (.tmp 17) ?ho ?hp ?hx hr
        case ho => rfl
        case hp => rfl
        case hx => rfl
      refine hK.out _ _ ?_
      clear hK K
      refine done_ (by kernel_rfl) ?_
      go_wp2
      first | go_end0 | refine bodyPost_ret (results_none rfl _ _ _) rfl ?_
      exact ⟨rfl, by rw [← HR.out]; exact ⟨HX.out.out.ls, (HTY.out.trans (Ty.row _ HM.out.row _ _)).trans (Ty.at _ _ _ _)⟩⟩
    · refine skip_ (w1 := w1.setCells V.heap.size 0 [.slice (some ⟨g, 0, none⟩) (L.length + 1) cap]) (by rfl) rfl (store_ 29 (.tmp 2) (.tmp 17) rfl (by rfl) (by rfl) (run_out HM.out (by kernel_rfl) rfl rfl)) ?_
      refine hK.out _ _ ?_
      clear hK K
      refine last_ (i := 11) (oi := { dst := none, op := .store 31 (.tmp 18) (.tmp 14), type := 0, pos := "auto.go:164", after := _, guard := none }) (N := none) #[true, true, true, true, true, true, true, true, true, true, true, true, true] rfl rfl (by kernel_rfl) (by decide) (fun K hK => ?_)
      have hr := run_put (seg := (ncs (txt (x.f1.extract at' tt)) none 0).toList) (u := .agg (ncs (txt (x.f1.extract at' tt)) none 0)) HM.out.out rfl rfl (by simp [Value.oneCell'])
      refine skip_ (by rfl) (by rfl) (store_ 31 (.tmp 18) (.tmp 14) rfl (by rfl) (by rfl) hr) ?_
      refine hK.out _ _ ?_
      clear hK K
      refine done_ (by kernel_rfl) ?_
      go_wp2
      first | go_end0 | refine bodyPost_ret (results_none rfl _ _ _) rfl ?_
      exact ⟨rfl, by rw [← HR.out]; exact ⟨(HM.out.out.put (x := (txt (x.f1.extract at' tt))) (A6 := none) (c6 := 0) (okp := fun _ => False) (Nat.zero_le _) (fn_nil _ _) (fun _ h => h.elim)).ls, (HTY.out.trans (Ty.at _ _ _ _)).trans (Ty.row _ HM.out.out.row _ _)⟩⟩
set_option maxHeartbeats 1000000 in
set_option maxRecDepth 100000 in
theorem lay_no {V W : World} {bn : Nat} {at' : Nat} (tt : Nat) {L : List Nd} {v : Value} (h : Lv V at' L v W) (hge : tt ≤ at') :
    Calls Tryd.prog 26 #[.int .i64 tt, .pointer (some ⟨V.heap.size + 1, 0, none⟩), .pointer (some ⟨V.heap.size, 0, none⟩), .pointer (some ⟨bn, 0, none⟩)] W fun e w' => e = .returned (.tuple #[]) ∧ Lyd V at' L W w' := by
  have HY := Aside0.mk (show Lyd V at' L W W from ⟨⟨h.bel, h.lt, h.ba, v, h.bo, h.row⟩, Ty.below _ (Below.refl _ _)⟩)
  have k1 := h.c1
  have q1 : decide (at' < tt) = false := decide_eq_false (by omega)
  clear h hge
  go_enter Tryd.func26, Tryd.ntmps26
  go_wp2
  first | go_end0 | refine bodyPost_ret (results_none rfl _ _ _) rfl ?_
  exact ⟨rfl, HY.out⟩
/-- What lies behind at', up to tt. -/
def gap (s : ByteArray) (at' tt : Nat) : List Nd := if at' < tt then [txt (s.extract at' tt)] else []
theorem lay_calls {V W : World} {bn : Nat} {x : Nd} {A : Option Addr} {c : Nat} (hn : V.heap[bn]? = some (.cells (ncs x A c) 31 (0, 0))) {at' : Nat} (tt : Nat) {L : List Nd} (h : Ls V at' L W) (hto : tt ≤ x.f1.size) (hs : x.f1.size ≤ 1048576) (hL : L.length ≤ 1048576) :
    Calls Tryd.prog 26 #[.int .i64 tt, .pointer (some ⟨V.heap.size + 1, 0, none⟩), .pointer (some ⟨V.heap.size, 0, none⟩), .pointer (some ⟨bn, 0, none⟩)] W fun e w' => e = .returned (.tuple #[]) ∧ Lyd V at' (L ++ gap x.f1 at' tt) W w' := by
  obtain ⟨v, hv⟩ := h.v
  unfold gap
  by_cases hlt : at' < tt
  · rw [if_pos hlt]
    exact lay_yes hn tt hv hlt hto hs hL
  · rw [if_neg hlt, List.append_nil]
    exact lay_no tt hv (Nat.le_of_not_lt hlt)
end Go.Proofs.YtddmddlaamcpiaaDoor.PA

namespace Go.Proofs.YtddmddlaamcpiaaDoor.PA
open Go.RowKit Go.Proofs.YtddmddlaamcpiaaDoor.Pl Go.Proofs.YtddmddlaamcpiaaDoorW.PrintWords Go.Proofs.YtddmddlaamcpiaaDoorW.PrintLast Go.Proofs.YtddmddlaamcpiaaDoorW.PrintMore
set_option linter.unusedVariables false

/-- An address as a link. -/
abbrev lnk (D s : ByteArray) : Nd := ⟨20, D, ⟨#[]⟩, 0, 0, false, [txt s]⟩
/-- The address's own block beside. -/
structure Pv (V : World) (at' : Nat) (L : List Nd) (v : Value) (bf f t : Nat) (D : ByteArray) (W : World) : Prop where
  lv : Lv V at' L v W
  bx : W.heap[bf]? = some (.cells #[.int .i64 (f : Int), .int .i64 (t : Int), .string D] 26 (0, 0))
section
variable {V W W' : World} {at' bf f t : Nat} {L : List Nd} {v : Value} {D : ByteArray}
theorem Pv.step (h : Pv V at' L v bf f t D W) (hb : Below W.heap.size W W') : Pv V at' L v bf f t D W' := ⟨h.lv.step hb, (hb.block _ (Array.getElem?_eq_some_iff.1 h.bx).1).trans h.bx⟩
theorem Pv.drew (h : Pv V at' L v bf f t D W) : Pv V at' L v bf f t D W.drew := h.step (below_drew (Below.refl _ _))
theorem Pv.alloc (h : Pv V at' L v bf f t D W) (o : Obj) : Pv V at' L v bf f t D (W.alloc o) := h.step (below_alloc (Below.refl _ _) _)
theorem Pv.b0 (h : Pv V at' L v bf f t D W) : W.cell? ⟨bf, 0, none⟩ = some (.int .i64 (f : Int)) := (Lib.cell_of_heap h.bx 0).trans rfl
theorem Pv.b1 (h : Pv V at' L v bf f t D W) : W.cell? ⟨bf, 1, none⟩ = some (.int .i64 (t : Int)) := (Lib.cell_of_heap h.bx 1).trans rfl
theorem Pv.b2 (h : Pv V at' L v bf f t D W) : W.cell? ⟨bf, 2, none⟩ = some (.string D) := (Lib.cell_of_heap h.bx 2).trans rfl
theorem Ls.step (h : Ls V at' L W) (hb : Below W.heap.size W W') : Ls V at' L W' := by
  obtain ⟨v, hv⟩ := h.v
  have := hv.step hb
  exact ⟨this.bel, this.lt, this.ba, v, this.bo, this.row⟩
/-- The number is set. -/
theorem Ls.set (h : Ls V at' L W) (n : Nat) : Ls V n L (W.setCell ⟨V.heap.size + 1, 0, none⟩ (.int .i64 (n : Int))) := by
  obtain ⟨v, h1, h2⟩ := h.bo
  have hb := blk_set h.ba 0 (.int .i64 (n : Int))
  refine ⟨?_, by simp; exact h.lt, by simpa using hb, v, (Below.heap_setCell _ _ _ _ (by simp)).trans h1, Kd.N_step h2 fun k hk _ => Below.heap_setCell _ _ _ _ (by show k ≠ V.heap.size + 1; omega)⟩
  exact ⟨h.bel.os, h.bel.tape, h.bel.output, by simp; exact h.bel.size, fun k hk => (Below.heap_setCell _ _ _ _ (by show k ≠ V.heap.size + 1; omega)).trans (h.bel.block k hk)⟩
theorem Ls.fz (h : Ls V at' L W) : W.frozen? ⟨V.heap.size + 1, 0, none⟩ = false := Lib.frozen_of_heap h.ba 0
theorem Ls.c1 (h : Ls V at' L W) : W.cell? ⟨V.heap.size + 1, 0, none⟩ = some (.int .i64 at') := (Lib.cell_of_heap h.ba 0).trans rfl
end
set_option maxHeartbeats 2000000 in
set_option maxRecDepth 100000 in
theorem app_cont {V W : World} {bn : Nat} {x : Nd} {A : Option Addr} {c : Nat} (hn : V.heap[bn]? = some (.cells (ncs x A c) 31 (0, 0))) {at' bf f t : Nat} {L : List Nd} {D : ByteArray} {Av : Option Addr} {cv : Nat} (hp : Pv V at' L (.slice Av L.length cv) bf f t D W) (hbf : bf ≠ V.heap.size) (hl : L.length ≤ 1048576) {z y : Nat} {w' : World} (hbb : Below W.heap.size W w') (h1 : Pv V at' L (.slice Av L.length cv) bf f t D w') (hz1 : W.heap.size ≤ z) (hy1 : W.heap.size ≤ y) (hy2 : y < w'.heap.size) (hB : w'.heap[z]? = some (.cells #[.int .i64 0, .string ⟨#[]⟩, .string ⟨#[]⟩, .int .i64 0, .int .i64 0, .bool false, .slice none 0 0] 31 (0, 0))) (hT : w'.heap[y]? = some (.cells #[.int .i64 14, .string (x.f1.extract f t), .string ⟨#[]⟩, .int .i64 0, .int .i64 0, .bool false, .slice none 0 0] 31 (0, 0)))
    (Q : Exit → Act → World → Prop) (hP : ∀ cc tm tm' df w, Q (.panic cc) ⟨tm, df⟩ w → Q (.panic cc) ⟨tm', df⟩ w) (u0 u2 u3 u5 u6 u7 u9 u10 u11 u12 u13 u14 u15 u16 u17 u18 u19 u20 u21 u22 u23 u24 u25 u26 u27 u29 u30 u31 u32 u33 u34 u35 u36 u37 u38 u39 u43 u44 u45 u46 u47 u48 u49 u50 u51 u52 u53 : Value)
    (hQ : ∀ v43 v44 W', Lyd V at' (L ++ [lnk D (x.f1.extract f t)]) W W' → Q .normal ⟨#[u0, .pointer (some ⟨bn, 0, none⟩), u2, u3, .pointer (some ⟨V.heap.size, 0, none⟩), u5, u6, u7, .pointer (some ⟨bf, 0, none⟩), u9, u10, u11, u12, u13, u14, u15, u16, u17, u18, u19, u20, u21, u22, u23, u24, u25, u26, u27, .slice Av L.length cv, u29, u30, u31, u32, u33, u34, u35, u36, u37, u38, u39, .agg #[.int .i64 20, .string D, .string ⟨#[]⟩, .int .i64 0, .int .i64 0, .bool false, .slice (some ⟨y, 0, none⟩) 1 1], .int .i64 L.length, .slice (some ⟨z, 0, none⟩) 1 1, v43, v44, u45, u46, u47, u48, u49, u50, u51, u52, u53], []⟩ W') :
    wpAnyLast Tryd.prog .any (opsOf Tryd.f17 11) Q (fun w' => w'.cell? ⟨V.heap.size, 0, none⟩ = some (.slice Av L.length cv) ∧ w'.cell? ⟨bn, 1, none⟩ = some (.string x.f1) ∧ w'.cell? ⟨bf, 0, none⟩ = some (.int .i64 (f : Int)) ∧ w'.cell? ⟨bf, 1, none⟩ = some (.int .i64 (t : Int)) ∧ w'.cell? ⟨bf, 2, none⟩ = some (.string D)) [17, 18] 4 #[true, true, true, true, true, true, true, true, true, true, true, true, true, true, true, false, false, false, false] ⟨#[u0, .pointer (some ⟨bn, 0, none⟩), u2, u3, .pointer (some ⟨V.heap.size, 0, none⟩), u5, u6, u7, .pointer (some ⟨bf, 0, none⟩), u9, u10, u11, u12, u13, u14, u15, u16, u17, u18, u19, u20, u21, u22, u23, u24, u25, u26, u27, .slice Av L.length cv, u29, u30, u31, u32, u33, u34, u35, u36, u37, u38, u39, .agg #[.int .i64 20, .string D, .string ⟨#[]⟩, .int .i64 0, .int .i64 0, .bool false, .slice (some ⟨y, 0, none⟩) 1 1], .int .i64 L.length, .slice (some ⟨z, 0, none⟩) 1 1, u43, u44, u45, u46, u47, u48, u49, u50, u51, u52, u53], []⟩ w' := by
  have HN := Aside0.mk hn
  have HP := Aside0.mk hp
  have HBF := Aside0.mk hbf
  have HL := Aside0.mk hl
  have HBB := Aside0.mk hbb
  have H1 := Aside0.mk h1
  have HB := Aside0.mk hB
  have HT := Aside0.mk hT
  clear hn hp hbf hl hbb h1 hB hT
  simp only [opsOf, Tryd.f17, opsIn, Option.bind_some, Option.getD_some, Nat.reduceBEq, Bool.false_eq_true, if_false, if_true]
  refine one_ (i := 15) (N := some 43) #[true, true, true, true, true, true, true, true, true, true, true, true, true, true, true, true, false, false, false] rfl rfl (by kernel_rfl) (by decide) (fun K hK => ?_)
  refine Kd.N_append_rows_step k31 (w0 := V) V.heap.size (by rfl) (.tmp 28) (.tmp 42) 29 31 (.agg #[.int .i64 0, .string ⟨#[]⟩, .string ⟨#[]⟩, .int .i64 0, .int .i64 0, .bool false, .slice none 0 0]) 88 (by rfl) Tryd.underlying29 infoNd rfl (by decide) (by omega) (.slice Av L.length cv) L [z31] (some ⟨z, 0, none⟩) 1 1 (fun k => V.heap.size + 2 ≤ k) (fun k => k = z) (by rfl) (by rfl) H1.out.lv.row ?aR ?aK ?aF H1.out.lv.bel ?aS ?aL ?_
  case aR => exact fn_one (x := z31) HB.out (Nat.zero_le _) (fn_nil _ _) rfl
  case aK => rintro k rfl; exact ⟨by have := HP.out.lv.lt; omega, fun e => by have := Kd.N_lt HP.out.lv.row _ e.symm; omega⟩
  case aF => exact fun k hk => Nat.le_trans H1.out.lv.lt hk
  case aS => exact H1.out.lv.bel.size
  case aL => have := HL.out; omega
  intro v1 w1 ho hb hg hat
  have hmd := H1.out.lv.md hb hg ho
  have HTY := Aside0.mk ((Ty.below V.heap.size HBB.out).trans (Ty.grown V.heap.size H1.out.lv.row hg))
  have hnv : some y ≠ (Value.slice Av L.length cv).ownBlock := fun e => by have := Kd.N_lt HP.out.lv.row _ e.symm; omega
  have HY1 := Aside0.mk (show w1.heap[y]? = some (.cells #[.int .i64 14, .string (x.f1.extract f t), .string ⟨#[]⟩, .int .i64 0, .int .i64 0, .bool false, .slice none 0 0] 31 (0, 0)) from (hg.block _ hy2 hnv).trans HT.out)
  have hyg : ∀ g n c, v1 = .slice (some ⟨g, 0, none⟩) n c → y ≠ g := fun g n c e e2 => by
    subst e; subst e2
    rcases hat with hat | ⟨b, hb1, hb2⟩
    · exact hnv (by rw [← hat]; simp [Value.ownBlock])
    · have : y = b := by simpa [Value.ownBlock] using hb1
      omega
  have hbx : w1.heap[bf]? = some (.cells #[.int .i64 (f : Int), .int .i64 (t : Int), .string D] 26 (0, 0)) := HTY.out _ _ _ HBF.out (by decide) HP.out.bx
  refine hK.out _ _ ⟨(Lib.cell_of_heap hmd.bo 0).trans rfl, (ndAt ((hmd.bel.block _ (Array.getElem?_eq_some_iff.1 HN.out).1).trans HN.out)).d1, (Lib.cell_of_heap hbx 0).trans rfl, (Lib.cell_of_heap hbx 1).trans rfl, (Lib.cell_of_heap hbx 2).trans rfl⟩ (fun _ => ?_)
  clear hK K hb hg hat hbx hnv
  obtain ⟨g, cap, rfl, hbg, hgl, cells, hgc⟩ := Kd.N_form ho (by simp)
  have hgo := ho.1 g (by simp [Value.ownBlock])
  have HYG := Aside0.mk (hyg g _ _ rfl)
  have hln : (L ++ [z31]).length = L.length + 1 := by rw [List.length_append, List.length_singleton]
  rw [hln] at hmd ⊢
  have HM := Aside0.mk hmd
  have HYL := Aside0.mk (show V.heap.size + 2 ≤ y from by have := HP.out.lv.lt; omega)
  clear hmd ho hbg hgl hgc hln hgo hyg hz1 hy1 hy2
  have p3 := eq_true (show 0 ≤ (L.length : Int) from by omega)
  have p4 := eq_true (show (L.length : Int) < (L.length : Int) + 1 from by omega)
  refine norm_ (a' := ?_) ?_ ?_
  rotate_left
  · show Act.put _ (some 43) _ = _
    simp only [Act.put, List.setIfInBounds_toArray, List.set_cons_zero, List.set_cons_succ]
    rfl
  refine pure_ (i := 16) (N := some 44) (v := ?_) (a' := ?_) #[true, true, true, true, true, true, true, true, true, true, true, true, true, true, true, true, true, false, false] rfl rfl (by kernel_rfl) (fun _ a _ h => hP _ _ _ a.defers _ h) (Or.inl ⟨by rfl, ?_⟩) ?_ ?_
  rotate_left
  · intro w'
    go_simp
    with_reducible rfl
  rotate_left
  · simp only [Act.put, List.setIfInBounds_toArray, List.set_cons_zero, List.set_cons_succ]
    rfl
  have HFY := Aside0.mk (show ∀ W', W'.heap[y]? = w1.heap[y]? → FN W' (fun k => k = y) (some ⟨y, 0, none⟩) [txt (x.f1.extract f t)] from fun W' hW => fn_one (x := txt (x.f1.extract f t)) (hW.trans HY1.out) (Nat.zero_le _) (fn_nil _ _) rfl)
  have HOK := Aside0.mk (show ∀ k, k = y → V.heap.size + 2 ≤ k ∧ k ≠ g from fun k e => by subst e; exact ⟨HYL.out, HYG.out⟩)
  have HX := Aside0.mk (HM.out.put (x := (lnk D (x.f1.extract f t))) (A6 := some ⟨y, 0, none⟩) (c6 := 1) (okp := fun k => k = y) (Nat.le_refl _) (HFY.out w1 rfl) HOK.out)
  refine two_last_ (i := 17) (j := 18) (oi := { dst := none, op := .store 31 (.tmp 44) (.tmp 40), type := 0, pos := "auto.go:169", after := _, guard := none }) (oj := { dst := none, op := .store 29 (.tmp 4) (.tmp 43), type := 0, pos := "auto.go:169", after := _, guard := none }) (Ni := none) (Nj := none) #[true, true, true, true, true, true, true, true, true, true, true, true, true, true, true, true, true, true, false] #[true, true, true, true, true, true, true, true, true, true, true, true, true, true, true, true, true, false, true] rfl rfl rfl rfl (by kernel_rfl) (by decide) (by decide) (fun K hK => ?_) (fun K hK => ?_)
  · have hr := run_put (seg := (ncs (lnk D (x.f1.extract f t)) (some ⟨y, 0, none⟩) 1).toList) (u := .agg (ncs (lnk D (x.f1.extract f t)) (some ⟨y, 0, none⟩) 1)) HM.out rfl rfl (by simp [Value.oneCell'])
    refine skip_ ?hw1 ?hd1 (w1 := w1.setCells g (L.length * 7) (ncs (lnk D (x.f1.extract f t)) (some ⟨y, 0, none⟩) 1).toList) ?hrun1 ?_
    case hd1 => rfl
    case hw1 => rfl
    case hrun1 =>
      refine store_ 31 (.tmp 44) (.tmp 40) ?ho1 ?hp1 ?hx1 hr
      case ho1 => rfl
      case hp1 => rfl
      case hx1 => rfl
    refine hK.out _ _ ?_
    clear hK K hr
    refine last_ (i := 18) (oi := { dst := none, op := .store 29 (.tmp 4) (.tmp 43), type := 0, pos := "auto.go:169", after := _, guard := none }) (N := none) #[true, true, true, true, true, true, true, true, true, true, true, true, true, true, true, true, true, true, true] rfl rfl (by kernel_rfl) (by decide) (fun K hK => ?_)
    have hr := run_out (P := Tryd.prog) (t := 29) HX.out (by kernel_rfl) rfl rfl
    refine skip_ ?hw2 ?hd2 (w1 := (w1.setCells g (L.length * 7) (ncs (lnk D (x.f1.extract f t)) (some ⟨y, 0, none⟩) 1).toList).setCells V.heap.size 0 [.slice (some ⟨g, 0, none⟩) (L.length + 1) cap]) ?hrun2 ?_
    case hd2 => rfl
    case hw2 => rfl
    case hrun2 =>
      refine store_ 29 (.tmp 4) (.tmp 43) ?ho2 ?hp2 ?hx2 hr
      case ho2 => rfl
      case hp2 => rfl
      case hx2 => rfl
    refine hK.out _ _ ?_
    clear hK K hr
    refine done_ (by kernel_rfl) ?_
    exact hQ _ _ _ ⟨HX.out.out.ls, (HTY.out.trans (Ty.row _ HM.out.row _ _)).trans (Ty.at _ _ _ _)⟩
  · have hr := run_out (P := Tryd.prog) (t := 29) HM.out (by kernel_rfl) rfl rfl
    refine skip_ ?hw3 ?hd3 (w1 := w1.setCells V.heap.size 0 [.slice (some ⟨g, 0, none⟩) (L.length + 1) cap]) ?hrun3 ?_
    case hd3 => rfl
    case hw3 => rfl
    case hrun3 =>
      refine store_ 29 (.tmp 4) (.tmp 43) ?ho3 ?hp3 ?hx3 hr
      case ho3 => rfl
      case hp3 => rfl
      case hx3 => rfl
    refine hK.out _ _ ?_
    clear hK K hr
    refine last_ (i := 17) (oi := { dst := none, op := .store 31 (.tmp 44) (.tmp 40), type := 0, pos := "auto.go:169", after := _, guard := none }) (N := none) #[true, true, true, true, true, true, true, true, true, true, true, true, true, true, true, true, true, true, true] rfl rfl (by kernel_rfl) (by decide) (fun K hK => ?_)
    have hr := run_put (seg := (ncs (lnk D (x.f1.extract f t)) (some ⟨y, 0, none⟩) 1).toList) (u := .agg (ncs (lnk D (x.f1.extract f t)) (some ⟨y, 0, none⟩) 1)) HM.out.out rfl rfl (by simp [Value.oneCell'])
    refine skip_ ?hw4 ?hd4 (w1 := (w1.setCells V.heap.size 0 [.slice (some ⟨g, 0, none⟩) (L.length + 1) cap]).setCells g (L.length * 7) (ncs (lnk D (x.f1.extract f t)) (some ⟨y, 0, none⟩) 1).toList) ?hrun4 ?_
    case hd4 => rfl
    case hw4 => rfl
    case hrun4 =>
      refine store_ 31 (.tmp 44) (.tmp 40) ?ho4 ?hp4 ?hx4 hr
      case ho4 => rfl
      case hp4 => rfl
      case hx4 => rfl
    refine hK.out _ _ ?_
    clear hK K hr
    refine done_ (by kernel_rfl) ?_
    exact hQ _ _ _ ⟨(HM.out.out.put (x := (lnk D (x.f1.extract f t))) (A6 := some ⟨y, 0, none⟩) (c6 := 1) (okp := fun k => k = y) (Nat.le_refl _) (HFY.out _ (setCells_far _ _ _ (by have := HYL.out; omega))) HOK.out).ls, (HTY.out.trans (Ty.at _ _ _ _)).trans (Ty.row _ HM.out.out.row _ _)⟩
set_option maxHeartbeats 2000000 in
set_option maxRecDepth 100000 in
theorem app_region {V W : World} {bn : Nat} {x : Nd} {A : Option Addr} {c : Nat} (hn : V.heap[bn]? = some (.cells (ncs x A c) 31 (0, 0))) {at' bf f t : Nat} {L : List Nd} {D : ByteArray} {Av : Option Addr} {cv : Nat} (hp : Pv V at' L (.slice Av L.length cv) bf f t D W) (hbf : bf ≠ V.heap.size) (hft : f ≤ t) (hts : t ≤ x.f1.size) (hl : L.length ≤ 1048576)
    (Q : Exit → Act → World → Prop) (hP : ∀ cc tm tm' df w, Q (.panic cc) ⟨tm, df⟩ w → Q (.panic cc) ⟨tm', df⟩ w) (u0 u2 u3 u5 u6 u7 u9 u10 u11 u12 u13 u14 u15 u16 u17 u18 u19 u20 u21 u22 u23 u24 u25 u26 u27 u28 u29 u30 u31 u32 u33 u34 u35 u36 u37 u38 u39 u40 u41 u42 u43 u44 u45 u46 u47 u48 u49 u50 u51 u52 u53 : Value)
    (hQ : ∀ v28 v29 v30 v31 v32 v33 v34 v35 v36 v37 v38 v39 v40 v41 v42 v43 v44 W', Lyd V at' (L ++ [lnk D (x.f1.extract f t)]) W W' → Q .normal ⟨#[u0, .pointer (some ⟨bn, 0, none⟩), u2, u3, .pointer (some ⟨V.heap.size, 0, none⟩), u5, u6, u7, .pointer (some ⟨bf, 0, none⟩), u9, u10, u11, u12, u13, u14, u15, u16, u17, u18, u19, u20, u21, u22, u23, u24, u25, u26, u27, v28, v29, v30, v31, v32, v33, v34, v35, v36, v37, v38, v39, v40, v41, v42, v43, v44, u45, u46, u47, u48, u49, u50, u51, u52, u53], []⟩ W') :
    (Code.region 11 (opsOf Tryd.f17 11) true).wp Tryd.prog Q ⟨#[u0, .pointer (some ⟨bn, 0, none⟩), u2, u3, .pointer (some ⟨V.heap.size, 0, none⟩), u5, u6, u7, .pointer (some ⟨bf, 0, none⟩), u9, u10, u11, u12, u13, u14, u15, u16, u17, u18, u19, u20, u21, u22, u23, u24, u25, u26, u27, u28, u29, u30, u31, u32, u33, u34, u35, u36, u37, u38, u39, u40, u41, u42, u43, u44, u45, u46, u47, u48, u49, u50, u51, u52, u53], []⟩ W := by
  have HN := Aside0.mk hn
  have HP := Aside0.mk hp
  have HBF := Aside0.mk hbf
  have HL := Aside0.mk hl
  have pf0 := eq_true (show 0 ≤ (f : Int) from by omega)
  have pf1 := eq_true (show (f : Int) ≤ (t : Int) from by omega)
  have pf2 := eq_true (show (t : Int) ≤ (x.f1.size : Int) from by omega)
  have HC0 := Aside0.mk (fun {z y : Nat} {w' : World} => app_cont hn hp hbf hl (z := z) (y := y) (w' := w'))
  clear hn hp hbf hl hft hts
  simp only [opsOf, Tryd.f17, opsIn, Option.bind_some, Option.getD_some, Nat.reduceBEq, Bool.false_eq_true, if_false, if_true] at HC0 ⊢
  refine start_ (n := 19) (S := fun w' => w'.cell? ⟨V.heap.size, 0, none⟩ = some (.slice Av L.length cv) ∧ w'.cell? ⟨bn, 1, none⟩ = some (.string x.f1) ∧ w'.cell? ⟨bf, 0, none⟩ = some (.int .i64 (f : Int)) ∧ w'.cell? ⟨bf, 1, none⟩ = some (.int .i64 (t : Int)) ∧ w'.cell? ⟨bf, 2, none⟩ = some (.string D)) (ds := [17, 18]) #[false, false, false, false, false, false, false, false, false, false, false, false, false, false, false, false, false, false, false] (by kernel_rfl) rfl rfl ⟨HP.out.drew.lv.c0, (ndAt (HP.out.drew.lv.cn HN.out)).d1, HP.out.drew.b0, HP.out.drew.b1, HP.out.drew.b2⟩ (fun hHeld => ?_)
  refine take_ (i := 0) (N := some 28) (v := ?_) (a' := ?_) #[true, false, false, false, false, false, false, false, false, false, false, false, false, false, false, false, false, false, false] rfl rfl (by kernel_rfl) (fun _ a _ h => hP _ _ _ a.defers _ h) (Or.inl ⟨by rfl, ?_⟩) hHeld ?_ ?_
  rotate_left
  · rintro w' ⟨s0, s1, s2, s3, s4⟩
    go_simp
    with_reducible rfl
  rotate_left
  · simp only [Act.put, List.setIfInBounds_toArray, List.set_cons_zero, List.set_cons_succ]
    rfl
  refine pure_ (i := 1) (N := some 29) (v := ?_) (a' := ?_) #[true, true, false, false, false, false, false, false, false, false, false, false, false, false, false, false, false, false, false] rfl rfl (by kernel_rfl) (fun _ a _ h => hP _ _ _ a.defers _ h) (Or.inl ⟨by rfl, ?_⟩) ?_ ?_
  rotate_left
  · intro w'
    go_simp
    with_reducible rfl
  rotate_left
  · simp only [Act.put, List.setIfInBounds_toArray, List.set_cons_zero, List.set_cons_succ]
    rfl
  refine take_ (i := 2) (N := some 30) (v := ?_) (a' := ?_) #[true, true, true, false, false, false, false, false, false, false, false, false, false, false, false, false, false, false, false] rfl rfl (by kernel_rfl) (fun _ a _ h => hP _ _ _ a.defers _ h) (Or.inl ⟨by rfl, ?_⟩) hHeld ?_ ?_
  rotate_left
  · rintro w' ⟨s0, s1, s2, s3, s4⟩
    go_simp
    with_reducible rfl
  rotate_left
  · simp only [Act.put, List.setIfInBounds_toArray, List.set_cons_zero, List.set_cons_succ]
    rfl
  refine pure_ (i := 3) (N := some 31) (v := ?_) (a' := ?_) #[true, true, true, true, false, false, false, false, false, false, false, false, false, false, false, false, false, false, false] rfl rfl (by kernel_rfl) (fun _ a _ h => hP _ _ _ a.defers _ h) (Or.inl ⟨by rfl, ?_⟩) ?_ ?_
  rotate_left
  · intro w'
    go_simp
    with_reducible rfl
  rotate_left
  · simp only [Act.put, List.setIfInBounds_toArray, List.set_cons_zero, List.set_cons_succ]
    rfl
  refine take_ (i := 4) (N := some 32) (v := ?_) (a' := ?_) #[true, true, true, true, true, false, false, false, false, false, false, false, false, false, false, false, false, false, false] rfl rfl (by kernel_rfl) (fun _ a _ h => hP _ _ _ a.defers _ h) (Or.inl ⟨by rfl, ?_⟩) hHeld ?_ ?_
  rotate_left
  · rintro w' ⟨s0, s1, s2, s3, s4⟩
    go_simp
    with_reducible rfl
  rotate_left
  · simp only [Act.put, List.setIfInBounds_toArray, List.set_cons_zero, List.set_cons_succ]
    rfl
  refine pure_ (i := 5) (N := some 33) (v := ?_) (a' := ?_) #[true, true, true, true, true, true, false, false, false, false, false, false, false, false, false, false, false, false, false] rfl rfl (by kernel_rfl) (fun _ a _ h => hP _ _ _ a.defers _ h) (Or.inl ⟨by rfl, ?_⟩) ?_ ?_
  rotate_left
  · intro w'
    go_simp
    with_reducible rfl
  rotate_left
  · simp only [Act.put, List.setIfInBounds_toArray, List.set_cons_zero, List.set_cons_succ]
    rfl
  refine take_ (i := 6) (N := some 34) (v := ?_) (a' := ?_) #[true, true, true, true, true, true, true, false, false, false, false, false, false, false, false, false, false, false, false] rfl rfl (by kernel_rfl) (fun _ a _ h => hP _ _ _ a.defers _ h) (Or.inl ⟨by rfl, ?_⟩) hHeld ?_ ?_
  rotate_left
  · rintro w' ⟨s0, s1, s2, s3, s4⟩
    go_simp
    with_reducible rfl
  rotate_left
  · simp only [Act.put, List.setIfInBounds_toArray, List.set_cons_zero, List.set_cons_succ]
    rfl
  refine pure_ (i := 7) (N := some 35) (v := ?_) (a' := ?_) #[true, true, true, true, true, true, true, true, false, false, false, false, false, false, false, false, false, false, false] rfl rfl (by kernel_rfl) (fun _ a _ h => hP _ _ _ a.defers _ h) (Or.inl ⟨by rfl, ?_⟩) ?_ ?_
  rotate_left
  · intro w'
    go_simp
    with_reducible rfl
  rotate_left
  · simp only [Act.put, List.setIfInBounds_toArray, List.set_cons_zero, List.set_cons_succ]
    rfl
  refine take_ (i := 8) (N := some 36) (v := ?_) (a' := ?_) #[true, true, true, true, true, true, true, true, true, false, false, false, false, false, false, false, false, false, false] rfl rfl (by kernel_rfl) (fun _ a _ h => hP _ _ _ a.defers _ h) (Or.inl ⟨by rfl, ?_⟩) hHeld ?_ ?_
  rotate_left
  · rintro w' ⟨s0, s1, s2, s3, s4⟩
    go_simp
    with_reducible rfl
  rotate_left
  · simp only [Act.put, List.setIfInBounds_toArray, List.set_cons_zero, List.set_cons_succ]
    rfl
  refine pure_ (i := 9) (N := some 37) (v := ?_) (a' := ?_) #[true, true, true, true, true, true, true, true, true, true, false, false, false, false, false, false, false, false, false] rfl rfl (by kernel_rfl) (fun _ a _ h => hP _ _ _ a.defers _ h) (Or.inl ⟨by rfl, ?_⟩) ?_ ?_
  rotate_left
  · intro w'
    go_simp
    with_reducible rfl
  rotate_left
  · simp only [Act.put, List.setIfInBounds_toArray, List.set_cons_zero, List.set_cons_succ]
    rfl
  refine pure_ (i := 13) (N := some 41) (v := ?_) (a' := ?_) #[true, true, true, true, true, true, true, true, true, true, false, false, false, true, false, false, false, false, false] rfl rfl (by kernel_rfl) (fun _ a _ h => hP _ _ _ a.defers _ h) (Or.inl ⟨by rfl, ?_⟩) ?_ ?_
  rotate_left
  · intro w'
    go_simp
    with_reducible rfl
  rotate_left
  · simp only [Act.put, List.setIfInBounds_toArray, List.set_cons_zero, List.set_cons_succ]
    rfl
  refine join_ 4 #[true, true, true, true, true, true, true, true, true, true, true, true, true, true, true, false, false, false, false] (fun s : Nat × Nat => [(38, .agg #[.int .i64 14, .string (x.f1.extract f t), .string ⟨#[]⟩, .int .i64 0, .int .i64 0, .bool false, .slice none 0 0]), (39, .slice (some ⟨s.2, 0, none⟩) 1 1), (40, (.agg #[.int .i64 20, .string D, .string ⟨#[]⟩, .int .i64 0, .int .i64 0, .bool false, .slice (some ⟨s.2, 0, none⟩) 1 1])), (42, .slice (some ⟨s.1, 0, none⟩) 1 1)]) (fun s w' => Aside0 (Below W.heap.size W w') ∧ Aside0 (Pv V at' L (.slice Av L.length cv) bf f t D w') ∧ Aside0 (W.heap.size ≤ s.1 ∧ W.heap.size ≤ s.2 ∧ s.2 < w'.heap.size) ∧ Aside0 (w'.heap[s.1]? = some (.cells #[.int .i64 0, .string ⟨#[]⟩, .string ⟨#[]⟩, .int .i64 0, .int .i64 0, .bool false, .slice none 0 0] 31 (0, 0))) ∧ Aside0 (w'.heap[s.2]? = some (.cells #[.int .i64 14, .string (x.f1.extract f t), .string ⟨#[]⟩, .int .i64 0, .int .i64 0, .bool false, .slice none 0 0] 31 (0, 0)))) ?cont ?main
  case main =>
    intro HC
    refine two_ (i := 10) (j := 14) (Ni := some 38) (Nj := some 42) #[true, true, true, true, true, true, true, true, true, true, true, false, false, true, false, false, false, false, false] #[true, true, true, true, true, true, true, true, true, true, false, false, false, true, true, false, false, false, false] rfl rfl rfl rfl (by kernel_rfl) (by decide) (by decide) (fun K hK => ?_) (fun K hK => ?_)
    · refine goes_ Tryd.func27 (by kernel_rfl) rfl #[.string (x.f1.extract f t)] (by rfl) (by rfl) rfl (by (try simp only [List.map_toArray, List.map_cons, List.map_nil]); first | done | rfl) ?_
      refine (text_calls (x.f1.extract f t) _).mono ?_
      rintro e u1 ⟨rfl, hb⟩
      refine ⟨_, rfl, ?_⟩
      have Pu1 := Aside0.mk (HP.out.drew.step hb)
      have HB1 := Aside0.mk (below_step (below_drew (Below.refl _ W)) hb)
      refine hK.out _ _ ⟨Pu1.out.lv.c0, (ndAt (Pu1.out.lv.cn HN.out)).d1, Pu1.out.b0, Pu1.out.b1, Pu1.out.b2⟩ (fun hHeld => ?_)
      clear hK K
      refine two_ (i := 11) (j := 14) (Ni := some 39) (Nj := some 42) #[true, true, true, true, true, true, true, true, true, true, true, true, false, true, false, false, false, false, false] #[true, true, true, true, true, true, true, true, true, true, true, false, false, true, true, false, false, false, false] rfl rfl rfl rfl (by kernel_rfl) (by decide) (by decide) (fun K hK => ?_) (fun K hK => ?_)
      · refine value_ (w1 := u1.alloc (.cells #[.int .i64 14, .string (x.f1.extract f t), .string ⟨#[]⟩, .int .i64 0, .int .i64 0, .bool false, .slice none 0 0] 31)) (v := .slice (some ⟨u1.heap.size, 0, none⟩) 1 1) (by rfl) (by rfl) (by go_simp) ?_
        refine hK.out _ _ ⟨(Pu1.out.alloc (.cells #[.int .i64 14, .string (x.f1.extract f t), .string ⟨#[]⟩, .int .i64 0, .int .i64 0, .bool false, .slice none 0 0] 31)).lv.c0, (ndAt ((Pu1.out.alloc (.cells #[.int .i64 14, .string (x.f1.extract f t), .string ⟨#[]⟩, .int .i64 0, .int .i64 0, .bool false, .slice none 0 0] 31)).lv.cn HN.out)).d1, (Pu1.out.alloc (.cells #[.int .i64 14, .string (x.f1.extract f t), .string ⟨#[]⟩, .int .i64 0, .int .i64 0, .bool false, .slice none 0 0] 31)).b0, (Pu1.out.alloc (.cells #[.int .i64 14, .string (x.f1.extract f t), .string ⟨#[]⟩, .int .i64 0, .int .i64 0, .bool false, .slice none 0 0] 31)).b1, (Pu1.out.alloc (.cells #[.int .i64 14, .string (x.f1.extract f t), .string ⟨#[]⟩, .int .i64 0, .int .i64 0, .bool false, .slice none 0 0] 31)).b2⟩ (fun hHeld => ?_)
        clear hK K
        refine pure_ (i := 12) (N := some 40) (v := ?_) (a' := ?_) #[true, true, true, true, true, true, true, true, true, true, true, true, true, true, false, false, false, false, false] rfl rfl (by kernel_rfl) (fun _ a _ h => hP _ _ _ a.defers _ h) (Or.inl ⟨by rfl, ?_⟩) ?_ ?_
        rotate_left
        · intro w'
          go_simp
          with_reducible rfl
        rotate_left
        · simp only [Act.put, List.setIfInBounds_toArray, List.set_cons_zero, List.set_cons_succ]
          rfl
        refine one_ (i := 14) (N := some 42) #[true, true, true, true, true, true, true, true, true, true, true, true, true, true, true, false, false, false, false] rfl rfl (by kernel_rfl) (by decide) (fun K hK => ?_)
        refine value_ (w1 := (u1.alloc (.cells #[.int .i64 14, .string (x.f1.extract f t), .string ⟨#[]⟩, .int .i64 0, .int .i64 0, .bool false, .slice none 0 0] 31)).alloc (.cells #[.int .i64 0, .string ⟨#[]⟩, .string ⟨#[]⟩, .int .i64 0, .int .i64 0, .bool false, .slice none 0 0] 31)) (v := .slice (some ⟨(u1.alloc (.cells #[.int .i64 14, .string (x.f1.extract f t), .string ⟨#[]⟩, .int .i64 0, .int .i64 0, .bool false, .slice none 0 0] 31)).heap.size, 0, none⟩) 1 1) (by rfl) (by rfl) (by go_simp) ?_
        refine hK.out _ _ ⟨((Pu1.out.alloc (.cells #[.int .i64 14, .string (x.f1.extract f t), .string ⟨#[]⟩, .int .i64 0, .int .i64 0, .bool false, .slice none 0 0] 31)).alloc (.cells #[.int .i64 0, .string ⟨#[]⟩, .string ⟨#[]⟩, .int .i64 0, .int .i64 0, .bool false, .slice none 0 0] 31)).lv.c0, (ndAt (((Pu1.out.alloc (.cells #[.int .i64 14, .string (x.f1.extract f t), .string ⟨#[]⟩, .int .i64 0, .int .i64 0, .bool false, .slice none 0 0] 31)).alloc (.cells #[.int .i64 0, .string ⟨#[]⟩, .string ⟨#[]⟩, .int .i64 0, .int .i64 0, .bool false, .slice none 0 0] 31)).lv.cn HN.out)).d1, ((Pu1.out.alloc (.cells #[.int .i64 14, .string (x.f1.extract f t), .string ⟨#[]⟩, .int .i64 0, .int .i64 0, .bool false, .slice none 0 0] 31)).alloc (.cells #[.int .i64 0, .string ⟨#[]⟩, .string ⟨#[]⟩, .int .i64 0, .int .i64 0, .bool false, .slice none 0 0] 31)).b0, ((Pu1.out.alloc (.cells #[.int .i64 14, .string (x.f1.extract f t), .string ⟨#[]⟩, .int .i64 0, .int .i64 0, .bool false, .slice none 0 0] 31)).alloc (.cells #[.int .i64 0, .string ⟨#[]⟩, .string ⟨#[]⟩, .int .i64 0, .int .i64 0, .bool false, .slice none 0 0] 31)).b1, ((Pu1.out.alloc (.cells #[.int .i64 14, .string (x.f1.extract f t), .string ⟨#[]⟩, .int .i64 0, .int .i64 0, .bool false, .slice none 0 0] 31)).alloc (.cells #[.int .i64 0, .string ⟨#[]⟩, .string ⟨#[]⟩, .int .i64 0, .int .i64 0, .bool false, .slice none 0 0] 31)).b2⟩ (fun hHeld => ?_)
        clear hK K
        exact HC (_, _) _ ⟨⟨below_alloc (below_alloc HB1.out _) _⟩, ⟨(Pu1.out.alloc _).alloc _⟩, ⟨by have := HB1.out.size; simp; omega⟩, ⟨heap_alloc_new _ _⟩, ⟨(Below.heap_alloc _ _ _ (by simp)).trans (heap_alloc_new _ _)⟩⟩
      · refine value_ (w1 := u1.alloc (.cells #[.int .i64 0, .string ⟨#[]⟩, .string ⟨#[]⟩, .int .i64 0, .int .i64 0, .bool false, .slice none 0 0] 31)) (v := .slice (some ⟨u1.heap.size, 0, none⟩) 1 1) (by rfl) (by rfl) (by go_simp) ?_
        refine hK.out _ _ ⟨(Pu1.out.alloc (.cells #[.int .i64 0, .string ⟨#[]⟩, .string ⟨#[]⟩, .int .i64 0, .int .i64 0, .bool false, .slice none 0 0] 31)).lv.c0, (ndAt ((Pu1.out.alloc (.cells #[.int .i64 0, .string ⟨#[]⟩, .string ⟨#[]⟩, .int .i64 0, .int .i64 0, .bool false, .slice none 0 0] 31)).lv.cn HN.out)).d1, (Pu1.out.alloc (.cells #[.int .i64 0, .string ⟨#[]⟩, .string ⟨#[]⟩, .int .i64 0, .int .i64 0, .bool false, .slice none 0 0] 31)).b0, (Pu1.out.alloc (.cells #[.int .i64 0, .string ⟨#[]⟩, .string ⟨#[]⟩, .int .i64 0, .int .i64 0, .bool false, .slice none 0 0] 31)).b1, (Pu1.out.alloc (.cells #[.int .i64 0, .string ⟨#[]⟩, .string ⟨#[]⟩, .int .i64 0, .int .i64 0, .bool false, .slice none 0 0] 31)).b2⟩ (fun hHeld => ?_)
        clear hK K
        refine one_ (i := 11) (N := some 39) #[true, true, true, true, true, true, true, true, true, true, true, true, false, true, true, false, false, false, false] rfl rfl (by kernel_rfl) (by decide) (fun K hK => ?_)
        refine value_ (w1 := (u1.alloc (.cells #[.int .i64 0, .string ⟨#[]⟩, .string ⟨#[]⟩, .int .i64 0, .int .i64 0, .bool false, .slice none 0 0] 31)).alloc (.cells #[.int .i64 14, .string (x.f1.extract f t), .string ⟨#[]⟩, .int .i64 0, .int .i64 0, .bool false, .slice none 0 0] 31)) (v := .slice (some ⟨u1.heap.size + 1, 0, none⟩) 1 1) (by rfl) (by rfl) (by go_simp) ?_
        refine hK.out _ _ ⟨((Pu1.out.alloc (.cells #[.int .i64 0, .string ⟨#[]⟩, .string ⟨#[]⟩, .int .i64 0, .int .i64 0, .bool false, .slice none 0 0] 31)).alloc (.cells #[.int .i64 14, .string (x.f1.extract f t), .string ⟨#[]⟩, .int .i64 0, .int .i64 0, .bool false, .slice none 0 0] 31)).lv.c0, (ndAt (((Pu1.out.alloc (.cells #[.int .i64 0, .string ⟨#[]⟩, .string ⟨#[]⟩, .int .i64 0, .int .i64 0, .bool false, .slice none 0 0] 31)).alloc (.cells #[.int .i64 14, .string (x.f1.extract f t), .string ⟨#[]⟩, .int .i64 0, .int .i64 0, .bool false, .slice none 0 0] 31)).lv.cn HN.out)).d1, ((Pu1.out.alloc (.cells #[.int .i64 0, .string ⟨#[]⟩, .string ⟨#[]⟩, .int .i64 0, .int .i64 0, .bool false, .slice none 0 0] 31)).alloc (.cells #[.int .i64 14, .string (x.f1.extract f t), .string ⟨#[]⟩, .int .i64 0, .int .i64 0, .bool false, .slice none 0 0] 31)).b0, ((Pu1.out.alloc (.cells #[.int .i64 0, .string ⟨#[]⟩, .string ⟨#[]⟩, .int .i64 0, .int .i64 0, .bool false, .slice none 0 0] 31)).alloc (.cells #[.int .i64 14, .string (x.f1.extract f t), .string ⟨#[]⟩, .int .i64 0, .int .i64 0, .bool false, .slice none 0 0] 31)).b1, ((Pu1.out.alloc (.cells #[.int .i64 0, .string ⟨#[]⟩, .string ⟨#[]⟩, .int .i64 0, .int .i64 0, .bool false, .slice none 0 0] 31)).alloc (.cells #[.int .i64 14, .string (x.f1.extract f t), .string ⟨#[]⟩, .int .i64 0, .int .i64 0, .bool false, .slice none 0 0] 31)).b2⟩ (fun hHeld => ?_)
        clear hK K
        refine pure_ (i := 12) (N := some 40) (v := ?_) (a' := ?_) #[true, true, true, true, true, true, true, true, true, true, true, true, true, true, true, false, false, false, false] rfl rfl (by kernel_rfl) (fun _ a _ h => hP _ _ _ a.defers _ h) (Or.inl ⟨by rfl, ?_⟩) ?_ ?_
        rotate_left
        · intro w'
          go_simp
          with_reducible rfl
        rotate_left
        · simp only [Act.put, List.setIfInBounds_toArray, List.set_cons_zero, List.set_cons_succ]
          rfl
        exact HC (_, _) _ ⟨⟨below_alloc (below_alloc HB1.out _) _⟩, ⟨(Pu1.out.alloc _).alloc _⟩, ⟨by have := HB1.out.size; simp; omega⟩, ⟨(Below.heap_alloc _ _ _ (by simp)).trans (heap_alloc_new _ _)⟩, ⟨heap_alloc2_new _ _ _⟩⟩
    · refine value_ (w1 := W.drew.alloc (.cells #[.int .i64 0, .string ⟨#[]⟩, .string ⟨#[]⟩, .int .i64 0, .int .i64 0, .bool false, .slice none 0 0] 31)) (v := .slice (some ⟨W.drew.heap.size, 0, none⟩) 1 1) (by rfl) (by rfl) (by go_simp) ?_
      refine hK.out _ _ ⟨(HP.out.drew.alloc (.cells #[.int .i64 0, .string ⟨#[]⟩, .string ⟨#[]⟩, .int .i64 0, .int .i64 0, .bool false, .slice none 0 0] 31)).lv.c0, (ndAt ((HP.out.drew.alloc (.cells #[.int .i64 0, .string ⟨#[]⟩, .string ⟨#[]⟩, .int .i64 0, .int .i64 0, .bool false, .slice none 0 0] 31)).lv.cn HN.out)).d1, (HP.out.drew.alloc (.cells #[.int .i64 0, .string ⟨#[]⟩, .string ⟨#[]⟩, .int .i64 0, .int .i64 0, .bool false, .slice none 0 0] 31)).b0, (HP.out.drew.alloc (.cells #[.int .i64 0, .string ⟨#[]⟩, .string ⟨#[]⟩, .int .i64 0, .int .i64 0, .bool false, .slice none 0 0] 31)).b1, (HP.out.drew.alloc (.cells #[.int .i64 0, .string ⟨#[]⟩, .string ⟨#[]⟩, .int .i64 0, .int .i64 0, .bool false, .slice none 0 0] 31)).b2⟩ (fun hHeld => ?_)
      clear hK K
      refine one_ (i := 10) (N := some 38) #[true, true, true, true, true, true, true, true, true, true, true, false, false, true, true, false, false, false, false] rfl rfl (by kernel_rfl) (by decide) (fun K hK => ?_)
      refine goes_ Tryd.func27 (by kernel_rfl) rfl #[.string (x.f1.extract f t)] (by rfl) (by rfl) rfl (by (try simp only [List.map_toArray, List.map_cons, List.map_nil]); first | done | rfl) ?_
      refine (text_calls (x.f1.extract f t) _).mono ?_
      rintro e u1 ⟨rfl, hb⟩
      refine ⟨_, rfl, ?_⟩
      have Pu1 := Aside0.mk ((HP.out.drew.alloc (.cells #[.int .i64 0, .string ⟨#[]⟩, .string ⟨#[]⟩, .int .i64 0, .int .i64 0, .bool false, .slice none 0 0] 31)).step hb)
      have HB1 := Aside0.mk (below_step (below_alloc (below_drew (Below.refl _ W)) (.cells #[.int .i64 0, .string ⟨#[]⟩, .string ⟨#[]⟩, .int .i64 0, .int .i64 0, .bool false, .slice none 0 0] 31)) hb)
      have HZ := Aside0.mk ((hb.block _ (by rw [World.size_alloc]; exact Nat.lt_succ_self _)).trans (heap_alloc_new W.drew (.cells #[.int .i64 0, .string ⟨#[]⟩, .string ⟨#[]⟩, .int .i64 0, .int .i64 0, .bool false, .slice none 0 0] 31)))
      have HZ2 := Aside0.mk (show W.heap.size < u1.heap.size from by have h1 := hb.size; rw [World.size_alloc] at h1; exact h1)
      refine hK.out _ _ ⟨Pu1.out.lv.c0, (ndAt (Pu1.out.lv.cn HN.out)).d1, Pu1.out.b0, Pu1.out.b1, Pu1.out.b2⟩ (fun hHeld => ?_)
      clear hK K
      refine one_ (i := 11) (N := some 39) #[true, true, true, true, true, true, true, true, true, true, true, true, false, true, true, false, false, false, false] rfl rfl (by kernel_rfl) (by decide) (fun K hK => ?_)
      refine value_ (w1 := u1.alloc (.cells #[.int .i64 14, .string (x.f1.extract f t), .string ⟨#[]⟩, .int .i64 0, .int .i64 0, .bool false, .slice none 0 0] 31)) (v := .slice (some ⟨u1.heap.size, 0, none⟩) 1 1) (by rfl) (by rfl) (by go_simp) ?_
      refine hK.out _ _ ⟨(Pu1.out.alloc (.cells #[.int .i64 14, .string (x.f1.extract f t), .string ⟨#[]⟩, .int .i64 0, .int .i64 0, .bool false, .slice none 0 0] 31)).lv.c0, (ndAt ((Pu1.out.alloc (.cells #[.int .i64 14, .string (x.f1.extract f t), .string ⟨#[]⟩, .int .i64 0, .int .i64 0, .bool false, .slice none 0 0] 31)).lv.cn HN.out)).d1, (Pu1.out.alloc (.cells #[.int .i64 14, .string (x.f1.extract f t), .string ⟨#[]⟩, .int .i64 0, .int .i64 0, .bool false, .slice none 0 0] 31)).b0, (Pu1.out.alloc (.cells #[.int .i64 14, .string (x.f1.extract f t), .string ⟨#[]⟩, .int .i64 0, .int .i64 0, .bool false, .slice none 0 0] 31)).b1, (Pu1.out.alloc (.cells #[.int .i64 14, .string (x.f1.extract f t), .string ⟨#[]⟩, .int .i64 0, .int .i64 0, .bool false, .slice none 0 0] 31)).b2⟩ (fun hHeld => ?_)
      clear hK K
      refine pure_ (i := 12) (N := some 40) (v := ?_) (a' := ?_) #[true, true, true, true, true, true, true, true, true, true, true, true, true, true, true, false, false, false, false] rfl rfl (by kernel_rfl) (fun _ a _ h => hP _ _ _ a.defers _ h) (Or.inl ⟨by rfl, ?_⟩) ?_ ?_
      rotate_left
      · intro w'
        go_simp
        with_reducible rfl
      rotate_left
      · simp only [Act.put, List.setIfInBounds_toArray, List.set_cons_zero, List.set_cons_succ]
        rfl
      exact HC (_, _) _ ⟨⟨below_alloc HB1.out _⟩, ⟨Pu1.out.alloc _⟩, ⟨by have := HB1.out.size; simp; omega⟩, ⟨(Below.heap_alloc _ _ _ HZ2.out).trans HZ.out⟩, ⟨heap_alloc_new _ _⟩⟩
  case cont =>
    rintro ⟨z, y⟩ w' ⟨HBB, H1, HZY, HB, HT⟩
    obtain ⟨hz1, hy1, hy2⟩ := HZY.out
    dsimp only at hz1 hy1 hy2 HB HT
    refine norm_ (a' := ?_) ?_ ?_
    rotate_left
    · show putAll _ _ = _
      simp only [putAll, Act.put, List.setIfInBounds_toArray, List.set_cons_zero, List.set_cons_succ]
      rfl
    exact HC0.out HBB.out H1.out hz1 hy1 hy2 HB.out HT.out Q hP _ _ _ _ _ _ _ _ _ _ _ _ _ _ _ _ _ _ _ _ _ _ _ _ _ _ _ _ _ _ _ _ _ _ _ _ _ _ _ _ _ _ _ _ _ _ _ (fun _ _ _ h => hQ _ _ _ _ _ _ _ _ _ _ _ _ _ _ _ _ _ _ h)
end Go.Proofs.YtddmddlaamcpiaaDoor.PA

namespace Go.Proofs.YtddmddlaamcpiaaDoor.Pl
open Go.RowKit Go.Proofs.YtddmddlaamcpiaaDoor.PA Go.Proofs.YtddmddlaamcpiaaDoorW.PrintWords
set_option linter.unusedVariables false

/-- Which sort may stand in a kind; of which sort a kind is. -/
def hld (k : Int) : Int := if k = 1 ∨ k = 2 ∨ k = 4 ∨ k = 13 then 1 else if k = 7 ∨ k = 8 ∨ k = 12 ∨ k = 18 ∨ k = 19 ∨ k = 20 ∨ k = 21 ∨ k = 23 then 2 else if k = 3 then 3 else if k = 10 then 4 else if k = 11 then 5 else 0
def srt (k : Int) : Int := if k < 0 ∨ 26 ≤ k then 0 else ([0, 0, 1, 1, 3, 1, 1, 1, 1, 1, 1, 4, 5, 1, 2, 2, 2, 2, 2, 2, 2, 2, 2, 2, 2, 2] : List Int).getD k.toNat 0
mutual
def wl1 (lk : Bool) : Nd → Bool
  | ⟨k, _, _, _, _, _, l⟩ => !(decide (k = 20) && lk) && wlL (hld k) (lk || decide (k = 20)) l
def wlL (h : Int) (lk : Bool) : List Nd → Bool
  | [] => true
  | x :: r => (decide (h ≠ 0) && (decide (srt x.f0 = h) && wl1 lk x)) && wlL h lk r
end
theorem wl1_eta (lk : Bool) (x : Nd) : wl1 lk x = (!(decide (x.f0 = 20) && lk) && wlL (hld x.f0) (lk || decide (x.f0 = 20)) x.f6) := by cases x; rw [wl1]
theorem wlL_append (h : Int) (lk : Bool) : ∀ a b : List Nd, wlL h lk (a ++ b) = (wlL h lk a && wlL h lk b)
  | [], b => by rw [List.nil_append, wlL, Bool.true_and]
  | x :: a, b => by rw [List.cons_append, wlL, wlL, wlL_append h lk a b]; simp only [Bool.and_assoc]
/-- A Text, or an address as a link. -/
def Bit (y : Nd) : Prop := (y.f0 = 14 ∧ y.f6 = []) ∨ (y.f0 = 20 ∧ ∃ z : Nd, y.f6 = [z] ∧ z.f0 = 14 ∧ z.f6 = [])
/-- What a Text comes to. -/
def Pcs (x : Nd) (ys : List Nd) : Prop := ys = [x] ∨ (ys.length ≤ 2 * x.f1.size + 1 ∧ ∀ y ∈ ys, Bit y)
mutual
/-- What a node, what nodes come to. -/
def Ap1 : Nd → List Nd → Prop
  | ⟨k, s, t, n, mm, fl, l⟩, ys => if k = 14 then Pcs ⟨k, s, t, n, mm, fl, l⟩ ys else if k = 20 then ys = [⟨k, s, t, n, mm, fl, l⟩] else ∃ l', ApL l l' ∧ ys = [⟨k, s, t, n, mm, fl, l'⟩]
def ApL : List Nd → List Nd → Prop
  | [], ys => ys = []
  | x :: r, ys => ∃ a b, Ap1 x a ∧ ApL r b ∧ ys = a ++ b
end
theorem apL_append : ∀ {a a' b b' : List Nd}, ApL a a' → ApL b b' → ApL (a ++ b) (a' ++ b')
  | [], a', b, b', ha, hb => by
    rw [ApL] at ha
    subst ha
    exact hb
  | x :: a, a', b, b', ha, hb => by
    rw [ApL] at ha
    obtain ⟨p, q, h1, h2, rfl⟩ := ha
    rw [List.cons_append, ApL]
    exact ⟨p, q ++ b', h1, apL_append h2 hb, by rw [List.append_assoc]⟩
theorem apL_one {x : Nd} {ys : List Nd} (h : Ap1 x ys) : ApL [x] ys := by
  rw [ApL]
  exact ⟨ys, [], h, by rw [ApL], by rw [List.append_nil]⟩
theorem srt_14 : srt 14 = 2 := by decide
theorem srt_20 : srt 20 = 2 := by decide
theorem hld_14 : hld 14 = 0 := by decide
theorem hld_20 : hld 20 = 2 := by decide
theorem bits_well : ∀ ys : List Nd, (∀ y ∈ ys, Bit y) → wlL 2 false ys = true
  | [], _ => by rw [wlL]
  | y :: r, h => by
    rw [wlL, bits_well r fun z hz => h z (List.mem_cons_of_mem _ hz), Bool.and_true, wl1_eta]
    rcases h y List.mem_cons_self with ⟨h0, h6⟩ | ⟨h0, z, h6, z0, z6⟩
    · rw [h0, h6, srt_14, wlL]
      rfl
    · rw [h0, h6, srt_20, hld_20, wlL, wlL, wl1_eta, z0, z6, srt_14, hld_14, wlL]
      rfl
mutual
theorem ap1_well {h : Int} : ∀ (x : Nd) (ys : List Nd), Ap1 x ys → srt x.f0 = h → h ≠ 0 → wl1 false x = true → wlL h false ys = true
  | ⟨k, s, t, n, mm, fl, l⟩, ys, ha, hs, h0, hw => by
    rw [Ap1] at ha
    dsimp only at hs
    have self : ∀ z : Nd, srt z.f0 = h → wl1 false z = true → wlL h false [z] = true := fun z h1 h2 => by rw [wlL, wlL, h1, h2, decide_eq_true h0, decide_eq_true rfl]; rfl
    by_cases k14 : k = 14
    · rw [if_pos k14] at ha
      rcases ha with rfl | ⟨_, hb⟩
      · exact self _ hs hw
      · rw [k14, srt_14] at hs
        subst hs
        exact bits_well ys hb
    rw [if_neg k14] at ha
    by_cases k20 : k = 20
    · rw [if_pos k20] at ha
      subst ha
      exact self _ hs hw
    rw [if_neg k20] at ha
    obtain ⟨l', hl, rfl⟩ := ha
    refine self _ hs ?_
    rw [wl1, Bool.and_eq_true] at hw ⊢
    refine ⟨hw.1, ?_⟩
    rw [decide_eq_false k20, Bool.or_false] at hw ⊢
    exact apL_well l l' hl hw.2
theorem apL_well {h : Int} : ∀ (l l' : List Nd), ApL l l' → wlL h false l = true → wlL h false l' = true
  | [], l', ha, _ => by
    rw [ApL] at ha
    subst ha
    rw [wlL]
  | x :: r, l', ha, hw => by
    rw [ApL] at ha
    obtain ⟨a, b, h1, h2, rfl⟩ := ha
    rw [wlL, Bool.and_eq_true, Bool.and_eq_true, Bool.and_eq_true, decide_eq_true_eq, decide_eq_true_eq] at hw
    rw [wlL_append, ap1_well x a h1 hw.1.2.1 hw.1.1 hw.1.2.2, apL_well r b h2 hw.2]
    rfl
end
mutual
/-- How many nodes. -/
def ct1 : Nd → Nat
  | ⟨_, _, _, _, _, _, l⟩ => 1 + ctL l
def ctL : List Nd → Nat
  | [] => 0
  | x :: r => ct1 x + ctL r
end
theorem ct1_eta (x : Nd) : ct1 x = 1 + ctL x.f6 := by cases x; rw [ct1]
theorem ctL_append : ∀ a b : List Nd, ctL (a ++ b) = ctL a + ctL b
  | [], b => by rw [List.nil_append, ctL]; omega
  | x :: a, b => by rw [List.cons_append, ctL, ctL, ctL_append a b]; omega
theorem len_ct : ∀ l : List Nd, l.length ≤ ctL l
  | [] => by simp
  | x :: r => by rw [List.length_cons, ctL]; have := ct1_eta x; have := len_ct r; omega
mutual
theorem ct1_wt : ∀ x : Nd, ct1 x ≤ wt1 x
  | ⟨k, s, t, n, mm, fl, l⟩ => by
    rw [ct1, wt1]
    have := ctL_wt l
    omega
theorem ctL_wt : ∀ l : List Nd, ctL l ≤ wt l
  | [] => by rw [ctL, wt]; exact Nat.le_refl _
  | x :: r => by
    rw [ctL, wt]
    have := ct1_wt x
    have := ctL_wt r
    omega
end
theorem bits_ct : ∀ ys : List Nd, (∀ y ∈ ys, Bit y) → ctL ys ≤ 2 * ys.length
  | [], _ => by rw [ctL]; exact Nat.le_refl _
  | y :: r, h => by
    have h1 := bits_ct r fun z hz => h z (List.mem_cons_of_mem _ hz)
    rw [ctL, ct1_eta, List.length_cons]
    rcases h y List.mem_cons_self with ⟨_, h6⟩ | ⟨_, z, h6, _, z6⟩
    · rw [h6, ctL]; omega
    · rw [h6, ctL, ctL, ct1_eta, z6, ctL]; omega
mutual
theorem ap1_ct : ∀ (x : Nd) (ys : List Nd), Ap1 x ys → ctL ys ≤ 4 * wt1 x
  | ⟨k, s, t, n, mm, fl, l⟩, ys, ha => by
    rw [Ap1] at ha
    have hs := ct1_wt ⟨k, s, t, n, mm, fl, l⟩
    have one : ∀ z : Nd, ctL [z] = ct1 z := fun z => by rw [ctL, ctL]; omega
    by_cases k14 : k = 14
    · rw [if_pos k14] at ha
      rcases ha with rfl | ⟨hl, hb⟩
      · rw [one]; omega
      · have := bits_ct ys hb
        dsimp only at hl
        rw [wt1]
        omega
    rw [if_neg k14] at ha
    by_cases k20 : k = 20
    · rw [if_pos k20] at ha
      subst ha
      rw [one]; omega
    rw [if_neg k20] at ha
    obtain ⟨l', hl, rfl⟩ := ha
    rw [one, ct1, wt1]
    have := apL_ct l l' hl
    omega
theorem apL_ct : ∀ (l l' : List Nd), ApL l l' → ctL l' ≤ 4 * wt l
  | [], l', ha => by
    rw [ApL] at ha
    subst ha
    rw [ctL]
    omega
  | x :: r, l', ha => by
    rw [ApL] at ha
    obtain ⟨a, b, h1, h2, rfl⟩ := ha
    rw [ctL_append, wt]
    have := ap1_ct x a h1
    have := apL_ct r b h2
    omega
end
end Go.Proofs.YtddmddlaamcpiaaDoor.Pl

namespace Go.Proofs.YtddmddlaamcpiaaDoor.PA
open Go.RowKit Go.Proofs.YtddmddlaamcpiaaDoorW.PrintWords

def strings_IndexByte.f (a0 : ByteArray) (a1 : Int) : Option Int := some (Lib.indexByte a0.data.toList a1.toNat.toUInt8)
theorem strings_IndexByte.calls (a0 : ByteArray) (a1 : Int) (r : Int) (w : World) (h : strings_IndexByte.f a0 a1 = some r) :
    Calls Tryd.prog 13 #[.string a0, .int .u8 a1] w fun e w' => e = .returned (.int .i64 r) ∧ Drawn0 w w' := by
  unfold strings_IndexByte.f at h
  have h2 := Option.some.inj h
  subst h2
  refine (Tryd.strings_IndexByte a0 a1 w).mono ?_
  rintro e w' ⟨rfl, rfl⟩
  exact ⟨rfl, Drawn0.refl _⟩
def strings_HasPrefix.f (a0 : ByteArray) (a1 : ByteArray) : Option Bool := some (Lib.hasPrefix a0.data.toList a1.data.toList)
theorem strings_HasPrefix.calls (a0 : ByteArray) (a1 : ByteArray) (r : Bool) (w : World) (h : strings_HasPrefix.f a0 a1 = some r) :
    Calls Tryd.prog 19 #[.string a0, .string a1] w fun e w' => e = .returned (.bool r) ∧ Drawn0 w w' := by
  unfold strings_HasPrefix.f at h
  have h2 := Option.some.inj h
  subst h2
  refine (Tryd.strings_HasPrefix a0 a1 w).mono ?_
  rintro e w' ⟨rfl, rfl⟩
  exact ⟨rfl, Drawn0.refl _⟩
def strings_CutPrefix.f (a0 : ByteArray) (a1 : ByteArray) : Option (ByteArray × Bool) := some (⟨(Lib.trimPrefix a0.data.toList a1.data.toList).toArray⟩, Lib.hasPrefix a0.data.toList a1.data.toList)
theorem strings_CutPrefix.calls (a0 : ByteArray) (a1 : ByteArray) (r1 : ByteArray) (r2 : Bool) (w : World) (h : strings_CutPrefix.f a0 a1 = some (r1, r2)) :
    Calls Tryd.prog 22 #[.string a0, .string a1] w fun e w' => e = .returned (.tuple #[.string r1, .bool r2]) ∧ Drawn0 w w' := by
  unfold strings_CutPrefix.f at h
  have h2 := Option.some.inj h
  obtain ⟨rfl, rfl⟩ := Prod.mk.inj h2
  refine (Tryd.strings_CutPrefix a0 a1 w).mono ?_
  rintro e w' ⟨rfl, rfl⟩
  exact ⟨rfl, Drawn0.refl _⟩
def strings_LastIndexByte.f (a0 : ByteArray) (a1 : Int) : Option Int := if a0.size ≤ 4611686018427387903 then some (Lib.lastIndexByte a0 a1) else none
theorem strings_LastIndexByte.calls (a0 : ByteArray) (a1 : Int) (r : Int) (w : World) (h : strings_LastIndexByte.f a0 a1 = some r) :
    Calls Tryd.prog 60 #[.string a0, .int .u8 a1] w fun e w' => e = .returned (.int .i64 r) ∧ Drawn0 w w' := by
  unfold strings_LastIndexByte.f at h
  split at h
  · rename_i hc
    have h2 := Option.some.inj h
    subst h2
    refine (Tryd.strings_LastIndexByte a0 a1 (by omega) w).mono ?_
    rintro e w' ⟨rfl, rfl⟩
    exact ⟨rfl, Drawn0.refl _⟩
  · cases h
theorem one_byte (a : ByteArray) (h : a.size = 1) : ∃ c, a = ⟨#[c]⟩ := by
  obtain ⟨⟨l⟩⟩ := a
  match l, h with
  | [c], _ => exact ⟨c, rfl⟩
def strings_Count.f (a0 : ByteArray) (a1 : ByteArray) : Option Int := if a1.size = 1 then some (Lib.countByte a0.data.toList (a1.data.toList.getD 0 0) : Int) else none
theorem strings_Count.calls (a0 : ByteArray) (a1 : ByteArray) (r : Int) (w : World) (h : strings_Count.f a0 a1 = some r) :
    Calls Tryd.prog 47 #[.string a0, .string a1] w fun e w' => e = .returned (.int .i64 r) ∧ Drawn0 w w' := by
  unfold strings_Count.f at h
  split at h
  · rename_i hc
    have h2 := Option.some.inj h
    subst h2
    obtain ⟨c, hc2⟩ : ∃ c, a1 = ⟨#[c]⟩ := one_byte a1 hc
    subst hc2
    refine (Tryd.strings_Count_one a0 c w).mono ?_
    rintro e w' ⟨rfl, rfl⟩
    exact ⟨rfl, Drawn0.refl _⟩
  · cases h
def strings_Contains.f (a0 : ByteArray) (a1 : ByteArray) : Option Bool := if a1.size = 1 then some (decide (0 ≤ Lib.indexByte a0.data.toList (a1.data.toList.getD 0 0))) else none
theorem strings_Contains.calls (a0 : ByteArray) (a1 : ByteArray) (r : Bool) (w : World) (h : strings_Contains.f a0 a1 = some r) :
    Calls Tryd.prog 33 #[.string a0, .string a1] w fun e w' => e = .returned (.bool r) ∧ Drawn0 w w' := by
  unfold strings_Contains.f at h
  split at h
  · rename_i hc
    have h2 := Option.some.inj h
    subst h2
    obtain ⟨c, hc2⟩ : ∃ c, a1 = ⟨#[c]⟩ := one_byte a1 hc
    subst hc2
    refine (Tryd.strings_Contains_one a0 c w).mono ?_
    rintro e w' ⟨rfl, rfl⟩
    exact ⟨rfl, Drawn0.refl _⟩
  · cases h
def strings_Split.f (a0 a1 : ByteArray) : Option (List ByteArray) := if a0.size ≤ 4294967280 ∧ 1 ≤ a1.size then some (Lib.splitB a1 0 (Lib.countB a0 a1) a0) else none
theorem strings_Split.calls (a0 a1 : ByteArray) (r : List ByteArray) (w : World) (hLd : Laid w) (h : strings_Split.f a0 a1 = some r) :
    Calls Tryd.prog 32 #[.string a0, .string a1] w fun e w' => ∃ v0_, e = .returned v0_ ∧ Kd.R Kd.string 9 w' w.heap.size (fun _ => True) v0_ r ∧ Below w.heap.size w w' := by
  unfold strings_Split.f at h
  split at h
  · rename_i hc
    obtain rfl := Option.some.inj h
    obtain ⟨m, hm⟩ := hLd.ml
    have hl := Lib.splitB_all a1 hc.2 0 _ a0 rfl
    have hk : Lib.countB a0 a1 ≤ 9223372036854775806 := by have := Lib.countB_le a1 hc.2 a0.size a0 (Nat.le_refl _); omega
    refine (Tryd.strings_Split a0 a1 m w (by omega) hm hc.2).mono ?_
    rintro e w' ⟨rfl, rfl⟩
    refine ⟨_, rfl, ⟨fun _ _ => trivial, ?_⟩, (Below.refl _ w).alloc (Nat.le_refl _) _⟩
    rw [← hl]
    exact OwnRow.lit w w.heap.size (Kd.reps_scalar _) (Nat.le_refl _) (by omega)
  · cases h
end Go.Proofs.YtddmddlaamcpiaaDoor.PA

namespace Go.Proofs.YtddmddlaamcpiaaDoor.PA
open Go.RowKit Go.Proofs.YtddmddlaamcpiaaDoorW.PrintWords Go.Proofs.YtddmddlaamcpiaaDoorW.PrintLast Go.Proofs.YtddmddlaamcpiaaDoorW.PrintMore
set_option linter.unusedVariables false

theorem ia_data (s : ByteArray) (i : Nat) (hi : i < s.size) : s.data.toList[i]? = some (s[i]'hi) := Lib.data_getElem? s i hi

set_option maxHeartbeats 1000000 in
set_option maxRecDepth 100000 in
theorem ia_bad (s : ByteArray) (w : World) (hs : s.size ≤ 4294967280) (ha : ∀ (j : Nat) b, s.data.toList[j]? = some b → b.toNat < 128) :
    Calls Tryd.prog 44 #[.string s, .int .i32 65533] w fun e w' => e = .returned (.int .i64 (-1)) ∧ Below w.heap.size w w' := by
  have HA := Aside0.mk ha
  clear ha
  go_enter Tryd.func44, Tryd.ntmps44
  go_wp2
  go_loopg [5, 6] s.size (fun g _ _ wx => ∃ i : Nat, i + g = s.size ∧ wx = w.iter s i)
  case atStart => exact ⟨0, by omega, rfl⟩
  case round =>
    obtain ⟨i, hig, rfl⟩ := hrel
    cases gk with
    | zero =>
      obtain rfl : i = s.size := by omega
      have hnx := run_next_end (P := Tryd.prog) w s s.size
      go_wp2
      go_ret
      exact ⟨rfl, (Below.refl _ w).alloc (Nat.le_refl _) _⟩
    | succ g =>
      have hi : i < s.size := by omega
      obtain ⟨x, hx⟩ : ∃ x : UInt8, s[i]'hi = x := ⟨_, rfl⟩
      have hx128 : x.toNat < 128 := HA.out i x (by rw [← hx]; exact ia_data s i hi)
      have hnx := fun ty => run_next_ascii (P := Tryd.prog) w s i ty hi (by rw [hx]; exact hx128)
      rw [hx] at hnx
      clear hx
      have hne : ((x.toNat : Int) == 65533) = false := beq_eq_false_iff_ne.2 (by omega)
      go_wp2
      go_roundg g
      case measure => omega
      case rel => exact ⟨i + 1, by omega, rfl⟩

theorem ia_none (l : List UInt8) (c : UInt8) (ha : ∀ (j : Nat) b, l[j]? = some b → b.toNat < 128) (hc : 128 ≤ c.toNat) : Lib.indexByte l c = -1 := by
  induction l with
  | nil => rfl
  | cons b l ih =>
    have h0 : b.toNat < 128 := ha 0 b rfl
    have hb : (b == c) = false := beq_eq_false_iff_ne.2 (fun e => by rw [e] at h0; omega)
    have := ih (fun j x hj => ha (j + 1) x hj)
    simp [Lib.indexByte, hb, this]

set_option maxHeartbeats 1000000 in
set_option maxRecDepth 100000 in
theorem ia_ill (s : ByteArray) (r : Int) (w : World) (h0 : 128 ≤ r) (h1 : r ≤ 1114111) (hv : Lib.validRune r = false) :
    Calls Tryd.prog 44 #[.string s, .int .i32 r] w fun e w' => e = .returned (.int .i64 (-1)) ∧ Below w.heap.size w w' := by
  have hne : (r == 65533) = false := beq_eq_false_iff_ne.2 (fun e => by subst e; simp [Lib.validRune] at hv)
  have h2 : decide (r < 128) = false := decide_eq_false (by omega)
  have h3 : decide (0 ≤ r) = true := decide_eq_true (by omega)
  go_enter Tryd.func44, Tryd.ntmps44
  go_wp2_with (go_at_call 55; refine (Tryd.utf8_ValidRune _ _).mono ?_; rintro e w' ⟨rfl, hw⟩; rw [hw, hv])
  go_ret
  exact ⟨rfl, Below.refl _ w⟩

set_option maxHeartbeats 1000000 in
set_option maxRecDepth 100000 in
theorem ia_hi (s : ByteArray) (r : Int) (w : World) (hs : s.size ≤ 4294967280) (h0 : 128 ≤ r) (h1 : r ≤ 1114111) (hv : Lib.validRune r = true) (hr : r ≠ 65533) (ha : ∀ (j : Nat) b, s.data.toList[j]? = some b → b.toNat < 128) :
    Calls Tryd.prog 44 #[.string s, .int .i32 r] w fun e w' => e = .returned (.int .i64 (-1)) ∧ Below w.heap.size w w' := by
  have hne : (r == 65533) = false := beq_eq_false_iff_ne.2 hr
  have h2 : decide (r < 128) = false := decide_eq_false (by omega)
  have h3 : decide (0 ≤ r) = true := decide_eq_true (by omega)
  have hvv : Utf8.valid r = true := by
    unfold Lib.validRune at hv
    unfold Utf8.valid
    simp at hv ⊢
    omega
  obtain ⟨e1, e2, e3⟩ := encode_facts r hvv h0
  clear hvv
  have HA := Aside0.mk ha
  clear ha hr
  obtain ⟨rs, hrs⟩ : ∃ rs, Utf8.encode r = rs := ⟨_, rfl⟩
  rw [hrs] at e1 e2 e3
  obtain ⟨n, hn⟩ : ∃ n, rs.size = n + 1 := ⟨rs.size - 1, by omega⟩
  have e4 : ∀ h : n < rs.size, 128 ≤ (rs[n]'h).toNat := by
    intro h
    have h' : rs.size - 1 < rs.size := by omega
    have := e3 h'
    simp only [show rs.size - 1 = n from by omega] at this
    exact this
  have E4 := Aside0.mk e4
  clear e3 e4
  go_enter Tryd.func44, Tryd.ntmps44
  go_wp2_with (go_at_call 55; refine (Tryd.utf8_ValidRune _ _).mono ?_; rintro e w' ⟨rfl, hw⟩; rw [hw, hv])
  subst hw
  go_step3
  go_wp2
  go_loopg [9, 10] 0 (fun g v9 v10 wx => v9 = .int .i64 (n : Int) ∧ v10 = .int .i64 0 ∧ wx = w')
  case atStart => exact ⟨rfl, rfl, rfl⟩
  case round =>
    obtain ⟨rfl, rfl, rfl⟩ := hrel
    by_cases hlt : n < s.size
    · have hn2 : n < rs.size := by omega
      have hq := E4.out hn2
      have hp := HA.out _ _ (ia_data s n hlt)
      have hpq : (((s[n]'hlt).toNat : Int) != ((rs[n]'hn2).toNat : Int)) = true := by rw [bne_iff_ne]; omega
      go_wp2
      go_step3
      go_wp2
      have HN := Aside0.mk hn
      clear hn
      have hqi0 : (0 : Int) ≤ (n : Int) := by omega
      have hqi1 : (n : Int) < (rs.size : Int) := by omega
      go_quiet (fail)
      obtain ⟨w1, hw1⟩ : ∃ w1, w1 = wr.drewN nq := ⟨_, rfl⟩
      rw [← hw1]
      have hbw : Below wr.heap.size wr w1 := by rw [hw1]; exact pw_below_drewN (Below.refl _ _) _
      clear hw1
      go_wp2
      have hq3 : (n : Int) + 1 ≤ (s.size : Int) := by omega
      have hq4 : (0 : Int) ≤ (n : Int) + 1 := by omega
      have hix : Lib.indexByte (s.extract (n + 1) s.size).data.toList rs[n] = -1 := by
        refine ia_none _ _ (fun j b hj => ?_) hq
        have hm : b ∈ s.data.toList := by
          have h1 : b ∈ (s.extract (n + 1) s.size).data.toList := List.mem_of_getElem? hj
          rw [Lib.extract_data] at h1
          exact List.mem_of_mem_drop (List.mem_of_mem_take h1)
        obtain ⟨j', hj'⟩ := List.getElem?_of_mem hm
        exact HA.out j' b hj'
      have hwr : IntKind.i64.wrap ((n : Int) + 1) = (n : Int) + 1 := IntWalk.i64_in _ (by omega)
      have htn : ((n : Int) + 1).toNat = n + 1 := by omega
      go_quiet ((go_at_call 13; exact Calls.quiet_of_same (Tryd.strings_IndexByte _ _ _)))
      clear hwr htn
      have hback : ((rs[n].toNat : Int)).toNat.toUInt8 = rs[n] := by simp
      rw [hback, hix]
      obtain ⟨w2, hw2⟩ : ∃ w2, w2 = w1.drewN nq := ⟨_, rfl⟩
      rw [← hw2]
      have hbw2 : Below wr.heap.size wr w2 := by rw [hw2]; exact pw_below_drewN hbw _
      clear hw2
      go_wp2
      repeat (first | refine ex_noGoto_ret ?_ | refine ex_block_ret ?_ | refine ex_then_ret ?_)
      go_ret
      exact ⟨rfl, hbw2⟩
    · go_wp2
      repeat (first | refine ex_noGoto_ret ?_ | refine ex_block_ret ?_ | refine ex_then_ret ?_)
      go_ret
      exact ⟨rfl, Below.refl _ _⟩

/-- A rune from 128 on is none of ASCII bytes. -/
theorem ia_far (s : ByteArray) (r : Int) (w : World) (hs : s.size ≤ 4294967280) (h0 : 128 ≤ r) (h1 : r ≤ 1114111) (ha : ∀ (j : Nat) b, s.data.toList[j]? = some b → b.toNat < 128) :
    Calls Tryd.prog 44 #[.string s, .int .i32 r] w fun e w' => e = .returned (.int .i64 (-1)) ∧ Below w.heap.size w w' := by
  by_cases hr : r = 65533
  · subst hr
    exact ia_bad s w hs ha
  · cases hv : Lib.validRune r
    · exact ia_ill s r w h0 h1 hv
    · exact ia_hi s r w hs h0 h1 hv hr ha

theorem ia_dn (n b0 b1 b2 b3 : Nat) : (1 < (Lib.decodeN n b0 b1 b2 b3).2 → 1 < n ∧ b1 / 64 = 2) ∧ (2 < (Lib.decodeN n b0 b1 b2 b3).2 → 2 < n ∧ b2 / 64 = 2) ∧ (3 < (Lib.decodeN n b0 b1 b2 b3).2 → 3 < n ∧ b3 / 64 = 2) ∧ (Lib.decodeN n b0 b1 b2 b3).2 ≤ 4 ∧ 1 ≤ (Lib.decodeN n b0 b1 b2 b3).2 := by
  unfold Lib.decodeN
  split
  · simp
  · split
    · rename_i h
      split <;> simp [h.2.1, h.2.2]
    · split
      · rename_i h
        split <;> simp [h.2.1.1, h.2.1.2, h.2.2.1, h.2.2.2]
      · split
        · rename_i h
          split <;> simp [h.2.1.1, h.2.1.2, h.2.2.1.1, h.2.2.1.2, h.2.2.2.1, h.2.2.2.2]
        · simp
theorem ia_get (s : ByteArray) (i : Nat) (hi : i < s.size) : s.get! i = s[i]'hi := by
  show s.data[i]! = s.data[i]
  exact getElem!_pos s.data i hi
theorem ia_rune (s : ByteArray) (i : Nat) (hi : i < s.size) (h : 128 ≤ (s[i]'hi).toNat) : i + (Utf8.decode s i).2 ≤ s.size ∧ 1 ≤ (Utf8.decode s i).2 ∧ ∀ (j : Nat) b, i ≤ j → j < i + (Utf8.decode s i).2 → s.data.toList[j]? = some b → 128 ≤ b.toNat := by
  rw [Lib.decode_at]
  obtain ⟨a1, a2, a3, a4, a5⟩ := ia_dn (s.size - i) (s.get! i).toNat (s.get! (i + 1)).toNat (s.get! (i + 2)).toNat (s.get! (i + 3)).toNat
  generalize (Lib.decodeN (s.size - i) (s.get! i).toNat (s.get! (i + 1)).toNat (s.get! (i + 2)).toNat (s.get! (i + 3)).toNat).2 = wd at *
  refine ⟨by omega, a5, fun j b h1 h2 hb => ?_⟩
  have hj : j < s.size := by
    have := (List.getElem?_eq_some_iff.1 hb).1
    rw [Array.length_toList] at this
    exact this
  have hbj : b = s.get! j := by
    rw [ia_get s j hj]
    rw [ia_data s j hj] at hb
    exact (Option.some.inj hb).symm
  subst hbj
  have h4 : j = i ∨ j = i + 1 ∨ j = i + 2 ∨ j = i + 3 := by omega
  rcases h4 with e | e | e | e <;> subst e
  · rw [ia_get s _ hi]; exact h
  · have := (a1 (by omega)).2; omega
  · have := (a2 (by omega)).2; omega
  · have := (a3 (by omega)).2; omega
theorem ia_runele (s : ByteArray) (i : Nat) : (Utf8.decode s i).1 ≤ 1114111 := by
  have h := Lib.decode_at s i
  rw [h]
  have hb : (s.get! i).toNat < 256 := UInt8.toNat_lt _
  unfold Lib.decodeN
  repeat' split
  all_goals (simp only; omega)

set_option maxHeartbeats 1000000 in
set_option maxRecDepth 100000 in
theorem ia_short (s chars : ByteArray) (w : World) (h2 : 2 ≤ chars.size) (h8 : s.size ≤ 8) (hc8 : chars.size ≤ 4294967280) (hac : ∀ (j : Nat) b, chars.data.toList[j]? = some b → b.toNat < 128) :
    Calls Tryd.prog 34 #[.string s, .string chars] w fun e w' => e = .returned (.int .i64 (Lib.indexAny s.data.toList chars.data.toList)) ∧ Below w.heap.size w w' := by
  have HA := Aside0.mk hac
  clear hac
  have hemp : chars.toList.isEmpty = false := by
    rw [Lib.toList_data]
    cases h : chars.data.toList with
    | nil => have := Lib.size_eq chars; rw [h, List.length_nil] at this; omega
    | cons _ _ => rfl
  have hn1 : ((chars.size : Int) == 1) = false := beq_eq_false_iff_ne.2 (by omega)
  have h8z : decide ((8 : Int) < (s.size : Int)) = false := decide_eq_false (by omega)
  go_enter Tryd.func34, Tryd.ntmps34
  go_wp2_with (go_at_call 45; refine (Tryd.strings_shouldUseASCIISet _ _).mono ?_; rintro e w' ⟨rfl, hw⟩; rw [hw, h8z])
  go_loopg [9, 10] s.size (fun g _ _ wx => ∃ i : Nat, i ≤ s.size ∧ s.size ≤ i + g ∧ wx.heap[w.heap.size]? = some (.stringIter s i) ∧ Below w.heap.size w wx ∧ Lib.NoAny s.data.toList chars.data.toList i)
  case atStart => exact ⟨0, by omega, by omega, World.iter_heap w s 0, (Below.refl _ w).alloc (Nat.le_refl _) _, Lib.NoAny.zero _ _⟩
  case round =>
    obtain ⟨i, hi1, hi2, hit, hbw, hno⟩ := hrel
    have HN := Aside0.mk hno
    clear hno
    have hsz : w.heap.size < wr.heap.size := (Array.getElem?_eq_some_iff.1 hit).1
    have HB := Aside0.mk hbw
    clear hbw
    by_cases hi : i < s.size
    · have hnx : ∀ ty, (Instr.next (.pointer (some ⟨w.heap.size, 0, none⟩)) true ty).run Tryd.prog wr = _ := fun ty => Lib.run_next_any_at wr w.heap.size s i ty hit hi
      obtain ⟨x, hx⟩ : ∃ x : UInt8, s[i]'hi = x := ⟨_, rfl⟩
      have Hx := Aside0.mk hx
      have hit2 := Lib.iterAt_heap wr w.heap.size s i (i + (Utf8.decode s i).2) hit
      have hbw2 := Lib.below_iterAt HB.out (k := w.heap.size) (Nat.le_refl _) s (i + (Utf8.decode s i).2)
      by_cases hlo : x.toNat < 128
      · have hd : Utf8.decode s i = (x.toNat, 1) := by
          have := decode_ascii s i hi (by rw [hx]; exact hlo)
          rw [hx] at this
          exact this
        have Hxl := Aside0.mk (show s.data.toList[i]? = some x by rw [ia_data s i hi, hx])
        clear hx Hx
        rw [hd] at hit2 hbw2
        simp only [hd] at hnx
        have HI := Aside0.mk hit2
        have HB2 := Aside0.mk hbw2
        clear hit2 hbw2 hd hit
        have hcon := Lib.contains_iff_indexByte chars.data.toList x
        have hback : ((x.toNat : Int)).toNat.toUInt8 = x := by simp
        cases hin : chars.data.toList.contains x
        · rw [hin] at hcon
          have hlt : ¬ ((0 : Int) ≤ Lib.indexByte chars.data.toList x) := of_decide_eq_false hcon.symm
          clear hcon
          go_wp2_with (go_at_call 44; refine (Tryd.strings_IndexRune_ascii _ _ _ (by omega) (by omega)).mono ?_; rintro e w' ⟨rfl, hw⟩; rw [hw, hback])
          go_roundg (gk - 1)
          case measure => omega
          case rel => exact ⟨i + 1, by omega, by omega, HI.out, HB2.out, HN.out.succ Hxl.out hin⟩
        · rw [hin] at hcon
          have hge : (0 : Int) ≤ Lib.indexByte chars.data.toList x := of_decide_eq_true hcon.symm
          clear hcon
          go_wp2_with (go_at_call 44; refine (Tryd.strings_IndexRune_ascii _ _ _ (by omega) (by omega)).mono ?_; rintro e w' ⟨rfl, hw⟩; rw [hw, hback])
          go_ret
          exact ⟨by rw [Lib.indexAny_hit HN.out Hxl.out hin]; rfl, HB2.out⟩
      · obtain ⟨g1, g2, g3⟩ := ia_rune s i hi (by rw [hx]; omega)
        have hr1 := (decode_high s i hi (by rw [hx]; omega)).1
        have hr2 := ia_runele s i
        clear hx
        have HI := Aside0.mk hit2
        have HB2 := Aside0.mk hbw2
        have hsz2 : (wr.iterAt w.heap.size s (i + (Utf8.decode s i).2)).heap.size = wr.heap.size := Lib.iterAt_size _ _ _ _
        have HZ := Aside0.mk hsz2
        clear hit2 hbw2 hit hsz2
        have G3 := Aside0.mk g3
        clear g3
        go_wp2_with (go_at_call 44; refine (ia_far chars _ _ hc8 (by omega) (by omega) HA.out).mono ?_; rintro e w2 ⟨rfl, hb2⟩)
        have hb3 : w2.heap[w.heap.size]? = some (.stringIter s (i + (Utf8.decode s i).2)) := (hb2.block _ (by rw [HZ.out]; exact hsz)).trans HI.out
        have hb4 : Below w.heap.size w w2 := below_then HB2.out (by rw [HZ.out]; omega) hb2
        clear hb2
        have H3 := Aside0.mk hb3
        have H4 := Aside0.mk hb4
        clear hb3 hb4
        go_wp2
        go_roundg (gk - 1)
        case measure => omega
        case rel =>
          refine ⟨i + (Utf8.decode s i).2, by omega, by omega, H3.out, H4.out, fun j b hj hb => ?_⟩
          by_cases hji : j < i
          · exact HN.out j b hji hb
          · have h1 := G3.out j b (by omega) hj hb
            cases hc : chars.data.toList.contains b
            · rfl
            · have hm : b ∈ chars.data.toList := by simpa using hc
              obtain ⟨j', hj'⟩ := List.getElem?_of_mem hm
              have := HA.out j' b hj'
              omega
    · have hnx : ∀ ty, (Instr.next (.pointer (some ⟨w.heap.size, 0, none⟩)) true ty).run Tryd.prog wr = _ := fun ty => Lib.run_next_end_at wr w.heap.size s i ty hit hi
      go_wp2
      go_ret
      have : i = s.data.toList.length := by rw [Array.length_toList]; show i = s.size; omega
      exact ⟨by rw [Lib.indexAny_none (by rw [← this]; exact HN.out)]; rfl, HB.out⟩

def strings_IndexAny.f (a0 a1 : ByteArray) : Option Int := if 2 ≤ a1.size ∧ a1.size ≤ 4294967280 ∧ a0.size ≤ 4294967280 ∧ (a1.data.toList.all fun b => decide (b.toNat < 128)) = true then some (Lib.indexAny a0.data.toList a1.data.toList) else none

theorem strings_IndexAny.calls (a0 a1 : ByteArray) (r : Int) (w : World) (h : strings_IndexAny.f a0 a1 = some r) :
    Calls Tryd.prog 34 #[.string a0, .string a1] w fun e w' => e = .returned (.int .i64 r) ∧ Below w.heap.size w w' := by
  unfold strings_IndexAny.f at h
  split at h
  · rename_i hc
    obtain ⟨h1, h2, h3, h4⟩ := hc
    obtain rfl := Option.some.inj h
    have ha := ascii_of_all h4
    by_cases h8 : a0.size ≤ 8
    · exact ia_short a0 a1 w h1 h8 h2 ha
    · refine (Any.strings_IndexAny_long Tryd.lays153 (fun w => by kernel_rfl) (by kernel_rfl) a0 a1 w h1 (by omega) (by omega) (by omega) ha).mono ?_
      rintro e w' ⟨rfl, rfl⟩
      exact ⟨rfl, ((Below.refl _ w).alloc (Nat.le_refl _) _).alloc (by simp) _⟩
  · cases h
end Go.Proofs.YtddmddlaamcpiaaDoor.PA

namespace Go.Proofs.YtddmddlaamcpiaaDoor.PA
open Go.RowKit Go.Proofs.YtddmddlaamcpiaaDoorW.PrintWords

def strings_TrimRight.f (a0 a1 : ByteArray) : Option ByteArray := if a0.size ≤ 9223372036854775807 ∧ a1.size ≤ 4294967280 ∧ (a1.data.toList.all fun b => decide (b.toNat < 128)) = true then some ⟨(Lib.trimRightS a0.data.toList a1.data.toList).toArray⟩ else none
theorem strings_TrimRight.calls (a0 a1 : ByteArray) (r : ByteArray) (w : World) (h : strings_TrimRight.f a0 a1 = some r) :
    Calls Tryd.prog 30 #[.string a0, .string a1] w fun e w' => e = .returned (.string r) ∧ Below w.heap.size w w' := by
  unfold strings_TrimRight.f at h
  split at h
  · rename_i hc
    obtain ⟨h1, h2, h3⟩ := hc
    obtain rfl := Option.some.inj h
    exact Any.strings_TrimRight_laid Tryd.lays162 (by kernel_rfl) a0 a1 w h1 (by omega) (ascii_of_all h3)
  · cases h
end Go.Proofs.YtddmddlaamcpiaaDoor.PA

namespace Go.Proofs.YtddmddlaamcpiaaDoor.PA
open Go.RowKit Go.Proofs.YtddmddlaamcpiaaDoorW.PrintWords Go.Proofs.YtddmddlaamcpiaaDoorW.PrintLast Go.Proofs.YtddmddlaamcpiaaDoorW.PrintMore
attribute [local go_sem] max2_int min2_int max_two min_two max_three min_three max_four min_four   -- for this text's walks alone
set_option linter.unusedVariables false
set_option linter.unusedSimpArgs false




/-! ### class_Letter: function 51 -/
def class_Letter.f (a0 : Int) : Option (Bool) := if (Go.bits .or .u8 a0 32) ≥ 97 then (some (decide ((Go.bits .or .u8 a0 32) ≤ 122))) else (some false)
set_option maxHeartbeats 8000000 in
set_option maxRecDepth 100000 in
theorem class_Letter.calls (a0 : Int) (r : Bool) (w : World) (h : class_Letter.f a0 = some r) :
    Calls Tryd.prog 51 #[.int .u8 a0] w fun e w' => e = .returned (.bool r) ∧ Drawn0 w w' := by
  have H : (if (Go.bits .or .u8 a0 32) ≥ 97 then (some (decide ((Go.bits .or .u8 a0 32) ≤ 122))) else (some false)) = some r := h
  clear h
  by_cases c2 : (Go.bits .or .u8 a0 32) ≥ 97
  · rw [if_pos c2] at H
    have c2b0 : decide (97 ≤ (Go.bits .or .u8 a0 32)) = true := decide_eq_true c2
    clear c2
    obtain rfl := Option.some.inj H
    go_enter Tryd.func51, Tryd.ntmps51
    go_wp2
    go_ret
    exact ⟨by first | rfl | exact retNe _ | (simp; done) | (simp [*]; done), by repeat (first | exact Drawn0.refl _ | apply Drawn0.step)⟩
  · rw [if_neg c2] at H
    have c2b0 : decide (97 ≤ (Go.bits .or .u8 a0 32)) = false := decide_eq_false c2
    clear c2
    obtain rfl := Option.some.inj H
    go_enter Tryd.func51, Tryd.ntmps51
    go_wp2
    go_ret
    exact ⟨by first | rfl | exact retNe _ | (simp; done) | (simp [*]; done), by repeat (first | exact Drawn0.refl _ | apply Drawn0.step)⟩

/-! ### class_Digit: function 52 -/
def class_Digit.f (a0 : Int) : Option (Bool) := if a0 ≥ 48 then (some (decide (a0 ≤ 57))) else (some false)
set_option maxHeartbeats 8000000 in
set_option maxRecDepth 100000 in
theorem class_Digit.calls (a0 : Int) (r : Bool) (w : World) (h : class_Digit.f a0 = some r) :
    Calls Tryd.prog 52 #[.int .u8 a0] w fun e w' => e = .returned (.bool r) ∧ Drawn0 w w' := by
  have H : (if a0 ≥ 48 then (some (decide (a0 ≤ 57))) else (some false)) = some r := h
  clear h
  by_cases c2 : a0 ≥ 48
  · rw [if_pos c2] at H
    have c2b0 : decide (48 ≤ a0) = true := decide_eq_true c2
    clear c2
    obtain rfl := Option.some.inj H
    go_enter Tryd.func52, Tryd.ntmps52
    go_wp2
    go_ret
    exact ⟨by first | rfl | exact retNe _ | (simp; done) | (simp [*]; done), by repeat (first | exact Drawn0.refl _ | apply Drawn0.step)⟩
  · rw [if_neg c2] at H
    have c2b0 : decide (48 ≤ a0) = false := decide_eq_false c2
    clear c2
    obtain rfl := Option.some.inj H
    go_enter Tryd.func52, Tryd.ntmps52
    go_wp2
    go_ret
    exact ⟨by first | rfl | exact retNe _ | (simp; done) | (simp [*]; done), by repeat (first | exact Drawn0.refl _ | apply Drawn0.step)⟩

/-! ### auto_word: function 41 -/
def auto_word.f (a0 : Int) : Option (Bool) := (class_Letter.f a0).bind fun t101 => (if t101 = true then (some true) else ((class_Digit.f a0).bind fun t102 => (some t102)))
set_option maxHeartbeats 8000000 in
set_option maxRecDepth 100000 in
theorem auto_word.calls (a0 : Int) (r : Bool) (w : World) (h : auto_word.f a0 = some r) :
    Calls Tryd.prog 41 #[.int .u8 a0] w fun e w' => e = .returned (.bool r) ∧ Drawn0 w w' := by
  have H : ((class_Letter.f a0).bind fun t101 => (if t101 = true then (some true) else ((class_Digit.f a0).bind fun t102 => (some t102)))) = some r := h
  clear h
  replace H := Option.bind_eq_some_iff.mp H
  obtain ⟨t101, A20, H⟩ := H
  replace H : (if t101 = true then (some true) else ((class_Digit.f a0).bind fun t102 => (some t102))) = some r := H
  have A2 := Aside0.mk A20
  clear A20
  by_cases c3 : t101 = true
  · subst c3
    have H1 : (some true) = some r := by rw [if_pos rfl] at H; exact H
    clear H
    have H := H1
    clear H1
    obtain rfl := Option.some.inj H
    go_enter Tryd.func41, Tryd.ntmps41
    go_wp2_with (first | ((with_reducible refine gate_callee (f := 51) rfl ?_); refine goesL_ (some 4) rfl rfl Tryd.func51 (by kernel_rfl) rfl #[.int .u8 a0] rfl (by (try simp only [List.map_toArray, List.map_cons, List.map_nil]); first | done | rfl | (simp only [List.length_drop, List.length_take]; rfl)) ?_; (with_reducible refine (class_Letter.calls a0 true _ A2.out).mono ?_); rintro e w' ⟨rfl, ⟨nd, rfl⟩⟩; refine ⟨_, rfl, ?_⟩))
    go_ret
    exact ⟨by first | rfl | exact retNe _ | (simp; done) | (simp [*]; done), by repeat (first | exact Drawn0.refl _ | apply Drawn0.step)⟩
  · replace c3 := Bool.eq_false_iff.mpr c3
    subst c3
    have H1 : ((class_Digit.f a0).bind fun t102 => (some t102)) = some r := by rw [if_neg (show ¬ (false = true) by decide)] at H; exact H
    clear H
    have H := H1
    clear H1
    replace H := Option.bind_eq_some_iff.mp H
    obtain ⟨t102, A40, H⟩ := H
    replace H : (some t102) = some r := H
    have A4 := Aside0.mk A40
    clear A40
    obtain rfl := Option.some.inj H
    go_enter Tryd.func41, Tryd.ntmps41
    go_wp2_with (first | ((with_reducible refine gate_callee (f := 51) rfl ?_); refine goesL_ (some 4) rfl rfl Tryd.func51 (by kernel_rfl) rfl #[.int .u8 a0] rfl (by (try simp only [List.map_toArray, List.map_cons, List.map_nil]); first | done | rfl | (simp only [List.length_drop, List.length_take]; rfl)) ?_; (with_reducible refine (class_Letter.calls a0 false _ A2.out).mono ?_); rintro e w' ⟨rfl, ⟨nd, rfl⟩⟩; refine ⟨_, rfl, ?_⟩) | (go_at_call 52; (with_reducible refine (class_Digit.calls a0 t102 _ A4.out).mono ?_); rintro e w' ⟨rfl, ⟨nd, rfl⟩⟩))
    go_ret
    exact ⟨by first | rfl | exact retNe _ | (simp; done) | (simp [*]; done), by repeat (first | exact Drawn0.refl _ | apply Drawn0.step)⟩

/-! ### auto_while: function 31 -/
def auto_while.l0 : Nat → ByteArray → ByteArray → Int → Option (Int)
  | 0, _, _, _ => none
  | k + 1, x0, x1, x5 => if x5 < (x0.size : Int) then (if 0 ≤ x5 then ((auto_word.f (bt x0 x5)).bind fun t103 => (if t103 = true then (auto_while.l0 k x0 x1 (wrap64 (x5 + 1))) else ((strings_IndexByte.f x1 (bt x0 x5)).bind fun t104 => (if t104 ≥ 0 then (auto_while.l0 k x0 x1 (wrap64 (x5 + 1))) else (some x5))))) else (none)) else (some x5)
def auto_while.f (k : Nat) (a0 : ByteArray) (a1 : ByteArray) : Option (Int) := auto_while.l0 k a0 a1 0
theorem auto_while.mono_l : ∀ k, (∀ y0 y1 y2, LeO (auto_while.l0 k y0 y1 y2) (auto_while.l0 (k + 1) y0 y1 y2))
  | 0 => fun _ _ _ r h => by simp [auto_while.l0] at h
  | k + 1 => by
    have ih0 := auto_while.mono_l k
    · intro y0 y1 y2
      unfold auto_while.l0
      repeat' first
      | (with_reducible exact ih0 _ _ _)
      | (with_reducible exact LeO.refl _)
      | (with_reducible exact LeO.none _)
      | (with_reducible refine LeO.ite ?_ ?_)
      | (with_reducible refine LeO.bind ?_ (fun _ => ?_))
      | exact ih0 _ _ _
      | exact LeO.none _
      | refine LeO.ite ?_ ?_
      | refine LeO.bind ?_ (fun _ => ?_)
theorem auto_while.mono : ∀ a0 a1 k, LeO (auto_while.f k a0 a1) (auto_while.f (k + 1) a0 a1) := by
  intro a0 a1 k
  have ih0 := auto_while.mono_l k
  unfold auto_while.f
  repeat' first
      | (with_reducible exact ih0 _ _ _)
      | (with_reducible exact LeO.refl _)
      | (with_reducible exact LeO.none _)
      | (with_reducible refine LeO.ite ?_ ?_)
      | (with_reducible refine LeO.bind ?_ (fun _ => ?_))
      | exact ih0 _ _ _
      | exact LeO.none _
      | refine LeO.ite ?_ ?_
      | refine LeO.bind ?_ (fun _ => ?_)
set_option maxHeartbeats 8000000 in
set_option maxRecDepth 100000 in
theorem auto_while.calls (k : Nat) (a0 : ByteArray) (a1 : ByteArray) (r : Int) (w : World) (h : auto_while.f k a0 a1 = some r) :
    Calls Tryd.prog 31 #[.string a0, .string a1] w fun e w' => e = .returned (.int .i64 r) ∧ Drawn0 w w' := by
  have H : (auto_while.l0 k a0 a1 0) = some r := h
  clear h
  have H' := Aside0.mk H
  clear H
  go_enter Tryd.func31, Tryd.ntmps31
  go_wp2
  go_loopg [5] k (fun kq v5 w' => ∃ (x5_1 : Int), v5 = .int .i64 x5_1 ∧ Aside0 (auto_while.l0 kq a0 a1 x5_1 = some r) ∧ Aside0 (kq ≤ k) ∧ Drawn0 w w')
  case atStart => exact ⟨(0), (by first | rfl | (simp; done) | (simp [*]; done)), H', ⟨Nat.le_refl _⟩, by repeat (first | exact Drawn0.refl _ | apply Drawn0.step)⟩
  case round =>
    clear H'
    try clear p2
    obtain ⟨x5_1, rfl, HA, HK1, ⟨m1, rfl⟩⟩ := hrel
    cases gk with
    | zero => exact absurd HA.out (by simp [auto_while.l0])
    | succ k1 =>
      have H := HA.out
      clear HA
      simp only [auto_while.l0] at H
      by_cases c3 : x5_1 < (a0.size : Int)
      · rw [if_pos c3] at H
        have c3b0 : decide (x5_1 < (a0.size : Int)) = true := decide_eq_true c3
        clear c3
        by_cases c4 : 0 ≤ x5_1
        · rw [if_pos c4] at H
          have c4b0 : decide (0 ≤ x5_1) = true := decide_eq_true c4
          clear c4
          replace H := Option.bind_eq_some_iff.mp H
          obtain ⟨t103, A60, H⟩ := H
          replace H : (if t103 = true then (auto_while.l0 k1 a0 a1 (wrap64 (x5_1 + 1))) else ((strings_IndexByte.f a1 (bt a0 x5_1)).bind fun t104 => (if t104 ≥ 0 then (auto_while.l0 k1 a0 a1 (wrap64 (x5_1 + 1))) else (some x5_1)))) = some r := H
          have A6 := Aside0.mk A60
          clear A60
          by_cases c7 : t103 = true
          · subst c7
            have H1 : (auto_while.l0 k1 a0 a1 (wrap64 (x5_1 + 1))) = some r := by rw [if_pos rfl] at H; exact H
            clear H
            have H := H1
            clear H1
            have H' := Aside0.mk H
            clear H
            have p5 : 0 ≤ (x5_1 : Int) := of_decide_eq_true (by first | (with_reducible assumption) | assumption)
            have q5 : x5_1 < (a0.size : Int) := of_decide_eq_true (by first | (with_reducible assumption) | assumption)
            have hx5 := bt_at a0 x5_1
            replace p5 := eq_true p5
            replace q5 := eq_true q5
            go_wp2_with (first | (go_at_call 41; (with_reducible refine (auto_word.calls (bt a0 x5_1) true _ A6.out).mono ?_); rintro e w' ⟨rfl, ⟨nd, rfl⟩⟩))
            go_roundg k1
            case measure => have := HK1.out; omega
            case rel => exact ⟨(wrap64 (x5_1 + 1)), (by first | rfl | (simp; done) | (simp [*]; done)), H', ⟨by have := HK1.out; omega⟩, by repeat (first | exact Drawn0.refl _ | apply Drawn0.step)⟩
          · replace c7 := Bool.eq_false_iff.mpr c7
            subst c7
            have H1 : ((strings_IndexByte.f a1 (bt a0 x5_1)).bind fun t104 => (if t104 ≥ 0 then (auto_while.l0 k1 a0 a1 (wrap64 (x5_1 + 1))) else (some x5_1))) = some r := by rw [if_neg (show ¬ (false = true) by decide)] at H; exact H
            clear H
            have H := H1
            clear H1
            replace H := Option.bind_eq_some_iff.mp H
            obtain ⟨t104, A90, H⟩ := H
            replace H : (if t104 ≥ 0 then (auto_while.l0 k1 a0 a1 (wrap64 (x5_1 + 1))) else (some x5_1)) = some r := H
            have A9 := Aside0.mk A90
            clear A90
            by_cases c10 : t104 ≥ 0
            · rw [if_pos c10] at H
              have c10b0 : decide (0 ≤ t104) = true := decide_eq_true c10
              clear c10
              have H' := Aside0.mk H
              clear H
              have p5 : 0 ≤ (x5_1 : Int) := of_decide_eq_true (by first | (with_reducible assumption) | assumption)
              have q5 : x5_1 < (a0.size : Int) := of_decide_eq_true (by first | (with_reducible assumption) | assumption)
              have hx5 := bt_at a0 x5_1
              replace p5 := eq_true p5
              replace q5 := eq_true q5
              go_wp2_with (first | (go_at_call 41; (with_reducible refine (auto_word.calls (bt a0 x5_1) false _ A6.out).mono ?_); rintro e w' ⟨rfl, ⟨nd, rfl⟩⟩; have p8 : 0 ≤ (x5_1 : Int) := of_decide_eq_true (by first | (with_reducible assumption) | assumption); have q8 : x5_1 < (a0.size : Int) := of_decide_eq_true (by first | (with_reducible assumption) | assumption); have hx8 := bt_at a0 x5_1; replace p8 := eq_true p8; replace q8 := eq_true q8) | (go_at_call 13; (with_reducible refine (strings_IndexByte.calls a1 (bt a0 x5_1) t104 _ A9.out).mono ?_); rintro e w' ⟨rfl, ⟨nd, rfl⟩⟩))
              go_roundg k1
              case measure => have := HK1.out; omega
              case rel => exact ⟨(wrap64 (x5_1 + 1)), (by first | rfl | (simp; done) | (simp [*]; done)), H', ⟨by have := HK1.out; omega⟩, by repeat (first | exact Drawn0.refl _ | apply Drawn0.step)⟩
            · rw [if_neg c10] at H
              have c10b0 : decide (0 ≤ t104) = false := decide_eq_false c10
              clear c10
              obtain rfl := Option.some.inj H
              have p5 : 0 ≤ (x5_1 : Int) := of_decide_eq_true (by first | (with_reducible assumption) | assumption)
              have q5 : x5_1 < (a0.size : Int) := of_decide_eq_true (by first | (with_reducible assumption) | assumption)
              have hx5 := bt_at a0 x5_1
              replace p5 := eq_true p5
              replace q5 := eq_true q5
              go_wp2_with (first | (go_at_call 41; (with_reducible refine (auto_word.calls (bt a0 x5_1) false _ A6.out).mono ?_); rintro e w' ⟨rfl, ⟨nd, rfl⟩⟩; have p8 : 0 ≤ (x5_1 : Int) := of_decide_eq_true (by first | (with_reducible assumption) | assumption); have q8 : x5_1 < (a0.size : Int) := of_decide_eq_true (by first | (with_reducible assumption) | assumption); have hx8 := bt_at a0 x5_1; replace p8 := eq_true p8; replace q8 := eq_true q8) | (go_at_call 13; (with_reducible refine (strings_IndexByte.calls a1 (bt a0 x5_1) t104 _ A9.out).mono ?_); rintro e w' ⟨rfl, ⟨nd, rfl⟩⟩))
              go_ret
              exact ⟨by first | rfl | exact retNe _ | (simp; done) | (simp [*]; done), by repeat (first | exact Drawn0.refl _ | apply Drawn0.step)⟩
        · rw [if_neg c4] at H
          exact absurd H (by simp)
      · rw [if_neg c3] at H
        have c3b0 : decide (x5_1 < (a0.size : Int)) = false := decide_eq_false c3
        clear c3
        obtain rfl := Option.some.inj H
        go_wp2
        go_ret
        exact ⟨by first | rfl | exact retNe _ | (simp; done) | (simp [*]; done), by repeat (first | exact Drawn0.refl _ | apply Drawn0.step)⟩



/-! ### auto_host: function 20 -/
mutual
def auto_host.j0 : Nat → ByteArray → List ByteArray → Bool → Option (Int)
  | 0, _, _, _ => none
  | k + 1, x3, x4, x32 => if x32 = true then (some 0) else (auto_host.l0 k x3 x4 (x4.length : Int) 0)
def auto_host.l0 : Nat → ByteArray → List ByteArray → Int → Int → Option (Int)
  | 0, _, _, _, _ => none
  | k + 1, x3, x33, x34, x35 => if x35 < x34 then (if 0 ≤ x35 then (if x35 < (x33.length : Int) then (if (rdOf ByteArray.empty x33 x35).toList = ([] : List UInt8) then (some 0) else (auto_host.l0 k x3 x33 x34 (wrap64 (x35 + 1)))) else (none)) else (none)) else (some (x3.size : Int))
end
def auto_host.f (k : Nat) (a0 : ByteArray) : Option (Int) := (auto_while.f k a0 (⟨#[45, 95, 46]⟩ : ByteArray)).bind fun t105 => (if 0 ≤ t105 then (if t105 ≤ (a0.size : Int) then ((strings_TrimRight.f (a0.extract 0 (t105 : Int).toNat) (⟨#[46]⟩ : ByteArray)).bind fun t106 => ((strings_Split.f t106 (⟨#[46]⟩ : ByteArray)).bind fun t107 => (if (t107.length : Int) < 2 then (auto_host.j0 k t106 t107 true) else (if 0 ≤ (wrap64 ((t107.length : Int) - 1)) then (if (wrap64 ((t107.length : Int) - 1)) < (t107.length : Int) then (if 0 ≤ (wrap64 ((t107.length : Int) - 2)) then (if (wrap64 ((t107.length : Int) - 2)) < (t107.length : Int) then (if (rdOf ByteArray.empty t107 (wrap64 ((t107.length : Int) - 1))).size + (rdOf ByteArray.empty t107 (wrap64 ((t107.length : Int) - 2))).size ≤ 9223372036854775807 then ((strings_Contains.f ((rdOf ByteArray.empty t107 (wrap64 ((t107.length : Int) - 1))) ++ (rdOf ByteArray.empty t107 (wrap64 ((t107.length : Int) - 2)))) (⟨#[95]⟩ : ByteArray)).bind fun t112 => (auto_host.j0 k t106 t107 t112)) else (none)) else (none)) else (none)) else (none)) else (none))))) else (none)) else (none))
theorem auto_host.mono_l : ∀ k, (∀ y0 y1 y2, LeO (auto_host.j0 k y0 y1 y2) (auto_host.j0 (k + 1) y0 y1 y2)) ∧ (∀ y0 y1 y2 y3, LeO (auto_host.l0 k y0 y1 y2 y3) (auto_host.l0 (k + 1) y0 y1 y2 y3))
  | 0 => ⟨fun _ _ _ r h => by simp [auto_host.j0] at h, fun _ _ _ _ r h => by simp [auto_host.l0] at h⟩
  | k + 1 => by
    obtain ⟨ih0, ih1⟩ := auto_host.mono_l k
    refine ⟨?_, ?_⟩
    · intro y0 y1 y2
      unfold auto_host.j0
      repeat' first
      | (with_reducible exact ih0 _ _ _)
      | (with_reducible exact ih1 _ _ _ _)
      | (with_reducible exact auto_while.mono _ _ _)
      | (with_reducible exact LeO.refl _)
      | (with_reducible exact LeO.none _)
      | (with_reducible refine LeO.ite ?_ ?_)
      | (with_reducible refine LeO.bind ?_ (fun _ => ?_))
      | exact ih0 _ _ _
      | exact ih1 _ _ _ _
      | exact auto_while.mono _ _ _
      | exact LeO.none _
      | refine LeO.ite ?_ ?_
      | refine LeO.bind ?_ (fun _ => ?_)
    · intro y0 y1 y2 y3
      unfold auto_host.l0
      repeat' first
      | (with_reducible exact ih0 _ _ _)
      | (with_reducible exact ih1 _ _ _ _)
      | (with_reducible exact auto_while.mono _ _ _)
      | (with_reducible exact LeO.refl _)
      | (with_reducible exact LeO.none _)
      | (with_reducible refine LeO.ite ?_ ?_)
      | (with_reducible refine LeO.bind ?_ (fun _ => ?_))
      | exact ih0 _ _ _
      | exact ih1 _ _ _ _
      | exact auto_while.mono _ _ _
      | exact LeO.none _
      | refine LeO.ite ?_ ?_
      | refine LeO.bind ?_ (fun _ => ?_)
theorem auto_host.mono : ∀ a0 k, LeO (auto_host.f k a0) (auto_host.f (k + 1) a0) := by
  intro a0 k
  obtain ⟨ih0, ih1⟩ := auto_host.mono_l k
  unfold auto_host.f
  repeat' first
      | (with_reducible exact ih0 _ _ _)
      | (with_reducible exact ih1 _ _ _ _)
      | (with_reducible exact auto_while.mono _ _ _)
      | (with_reducible exact LeO.refl _)
      | (with_reducible exact LeO.none _)
      | (with_reducible refine LeO.ite ?_ ?_)
      | (with_reducible refine LeO.bind ?_ (fun _ => ?_))
      | exact ih0 _ _ _
      | exact ih1 _ _ _ _
      | exact auto_while.mono _ _ _
      | exact LeO.none _
      | refine LeO.ite ?_ ?_
      | refine LeO.bind ?_ (fun _ => ?_)
set_option maxHeartbeats 8000000 in
set_option maxRecDepth 100000 in
theorem auto_host.calls (k : Nat) (a0 : ByteArray) (r : Int) (w : World) (hLd : Laid w) (h : auto_host.f k a0 = some r) :
    Calls Tryd.prog 20 #[.string a0] w fun e w' => e = .returned (.int .i64 r) ∧ Below w.heap.size w w' := by
  have HB := Aside0.mk (Below.refl w.heap.size w)
  have H : ((auto_while.f k a0 (⟨#[45, 95, 46]⟩ : ByteArray)).bind fun t105 => (if 0 ≤ t105 then (if t105 ≤ (a0.size : Int) then ((strings_TrimRight.f (a0.extract 0 (t105 : Int).toNat) (⟨#[46]⟩ : ByteArray)).bind fun t106 => ((strings_Split.f t106 (⟨#[46]⟩ : ByteArray)).bind fun t107 => (if (t107.length : Int) < 2 then (auto_host.j0 k t106 t107 true) else (if 0 ≤ (wrap64 ((t107.length : Int) - 1)) then (if (wrap64 ((t107.length : Int) - 1)) < (t107.length : Int) then (if 0 ≤ (wrap64 ((t107.length : Int) - 2)) then (if (wrap64 ((t107.length : Int) - 2)) < (t107.length : Int) then (if (rdOf ByteArray.empty t107 (wrap64 ((t107.length : Int) - 1))).size + (rdOf ByteArray.empty t107 (wrap64 ((t107.length : Int) - 2))).size ≤ 9223372036854775807 then ((strings_Contains.f ((rdOf ByteArray.empty t107 (wrap64 ((t107.length : Int) - 1))) ++ (rdOf ByteArray.empty t107 (wrap64 ((t107.length : Int) - 2)))) (⟨#[95]⟩ : ByteArray)).bind fun t112 => (auto_host.j0 k t106 t107 t112)) else (none)) else (none)) else (none)) else (none)) else (none))))) else (none)) else (none))) = some r := h
  clear h
  replace H := Option.bind_eq_some_iff.mp H
  obtain ⟨t105, A20, H⟩ := H
  replace H : (if 0 ≤ t105 then (if t105 ≤ (a0.size : Int) then ((strings_TrimRight.f (a0.extract 0 (t105 : Int).toNat) (⟨#[46]⟩ : ByteArray)).bind fun t106 => ((strings_Split.f t106 (⟨#[46]⟩ : ByteArray)).bind fun t107 => (if (t107.length : Int) < 2 then (auto_host.j0 k t106 t107 true) else (if 0 ≤ (wrap64 ((t107.length : Int) - 1)) then (if (wrap64 ((t107.length : Int) - 1)) < (t107.length : Int) then (if 0 ≤ (wrap64 ((t107.length : Int) - 2)) then (if (wrap64 ((t107.length : Int) - 2)) < (t107.length : Int) then (if (rdOf ByteArray.empty t107 (wrap64 ((t107.length : Int) - 1))).size + (rdOf ByteArray.empty t107 (wrap64 ((t107.length : Int) - 2))).size ≤ 9223372036854775807 then ((strings_Contains.f ((rdOf ByteArray.empty t107 (wrap64 ((t107.length : Int) - 1))) ++ (rdOf ByteArray.empty t107 (wrap64 ((t107.length : Int) - 2)))) (⟨#[95]⟩ : ByteArray)).bind fun t112 => (auto_host.j0 k t106 t107 t112)) else (none)) else (none)) else (none)) else (none)) else (none))))) else (none)) else (none)) = some r := H
  have A2 := Aside0.mk A20
  clear A20
  by_cases c3 : 0 ≤ t105
  · rw [if_pos c3] at H
    have c3b0 := eq_true c3
    have c3b1 : decide (0 ≤ t105) = true := decide_eq_true c3
    clear c3
    by_cases c4 : t105 ≤ (a0.size : Int)
    · rw [if_pos c4] at H
      have c4b0 := eq_true c4
      have c4b1 : decide (t105 ≤ (a0.size : Int)) = true := decide_eq_true c4
      clear c4
      replace H := Option.bind_eq_some_iff.mp H
      obtain ⟨t106, A50, H⟩ := H
      replace H : ((strings_Split.f t106 (⟨#[46]⟩ : ByteArray)).bind fun t107 => (if (t107.length : Int) < 2 then (auto_host.j0 k t106 t107 true) else (if 0 ≤ (wrap64 ((t107.length : Int) - 1)) then (if (wrap64 ((t107.length : Int) - 1)) < (t107.length : Int) then (if 0 ≤ (wrap64 ((t107.length : Int) - 2)) then (if (wrap64 ((t107.length : Int) - 2)) < (t107.length : Int) then (if (rdOf ByteArray.empty t107 (wrap64 ((t107.length : Int) - 1))).size + (rdOf ByteArray.empty t107 (wrap64 ((t107.length : Int) - 2))).size ≤ 9223372036854775807 then ((strings_Contains.f ((rdOf ByteArray.empty t107 (wrap64 ((t107.length : Int) - 1))) ++ (rdOf ByteArray.empty t107 (wrap64 ((t107.length : Int) - 2)))) (⟨#[95]⟩ : ByteArray)).bind fun t112 => (auto_host.j0 k t106 t107 t112)) else (none)) else (none)) else (none)) else (none)) else (none)))) = some r := H
      have A5 := Aside0.mk A50
      clear A50
      replace H := Option.bind_eq_some_iff.mp H
      obtain ⟨t107, A60, H⟩ := H
      replace H : (if (t107.length : Int) < 2 then (auto_host.j0 k t106 t107 true) else (if 0 ≤ (wrap64 ((t107.length : Int) - 1)) then (if (wrap64 ((t107.length : Int) - 1)) < (t107.length : Int) then (if 0 ≤ (wrap64 ((t107.length : Int) - 2)) then (if (wrap64 ((t107.length : Int) - 2)) < (t107.length : Int) then (if (rdOf ByteArray.empty t107 (wrap64 ((t107.length : Int) - 1))).size + (rdOf ByteArray.empty t107 (wrap64 ((t107.length : Int) - 2))).size ≤ 9223372036854775807 then ((strings_Contains.f ((rdOf ByteArray.empty t107 (wrap64 ((t107.length : Int) - 1))) ++ (rdOf ByteArray.empty t107 (wrap64 ((t107.length : Int) - 2)))) (⟨#[95]⟩ : ByteArray)).bind fun t112 => (auto_host.j0 k t106 t107 t112)) else (none)) else (none)) else (none)) else (none)) else (none))) = some r := H
      have A6 := Aside0.mk A60
      clear A60
      have HC7 := Aside0.mk H
      clear H
      go_enter Tryd.func20, Tryd.ntmps20
      go_upto_region 3 with (first | (go_at_call 31; (with_reducible refine (auto_while.calls k a0 (⟨#[45, 95, 46]⟩ : ByteArray) t105 _ A2.out).mono ?_); rintro e w' ⟨rfl, ⟨nd, rfl⟩⟩; (try first | exact ⟨rfl, _, World.drewN_drewN _ _ _⟩ | exact ⟨rfl, _, Eq.trans (World.drewN_drewN _ _ _) (congrArg (World.drewN _) (Nat.add_assoc _ _ _))⟩)) | (go_at_call 30; (with_reducible refine (strings_TrimRight.calls (a0.extract 0 (t105 : Int).toNat) (⟨#[46]⟩ : ByteArray) t106 _ A5.out).mono ?_); rintro e w8 ⟨rfl, hb⟩; have n0_ := Aside0.mk (below_step (by repeat (first | (with_reducible first | exact HB.out | apply below_alloc | apply pw_below_drewN | apply below_drew1) | exact HB.out)) hb); clear HB; have HB := n0_; clear n0_; (try clear hb); (try clear hb2); (try clear hk); (try clear hi)) | (go_at_call 32; (with_reducible refine (strings_Split.calls t106 (⟨#[46]⟩ : ByteArray) t107 _ ?side1 A6.out).mono ?_); (case side1 => exact Laid.go hLd (by repeat (first | (with_reducible first | exact HB.out | apply below_alloc | apply pw_below_drewN | apply below_drew1) | exact HB.out))); rintro e w9 ⟨v108, rfl, ho0, hb⟩; have n0_ := Aside0.mk (Kd.R_lower ho0 (below_size (by repeat (first | (with_reducible first | exact HB.out | apply below_alloc | apply pw_below_drewN | apply below_drew1) | exact HB.out)))); have n1_ := Aside0.mk (below_step (by repeat (first | (with_reducible first | exact HB.out | apply below_alloc | apply pw_below_drewN | apply below_drew1) | exact HB.out)) hb); clear HB; have HO109 := n0_; have HB := n1_; clear n0_ n1_; (try clear hb); (try clear hb2); (try clear hk); (try clear hi); (try clear ho0)))
      repeat (go_quiet (first | (go_at_call 31; (with_reducible refine (auto_while.calls k a0 (⟨#[45, 95, 46]⟩ : ByteArray) t105 _ A2.out).mono ?_); rintro e w' ⟨rfl, ⟨nd, rfl⟩⟩; (try first | exact ⟨rfl, _, World.drewN_drewN _ _ _⟩ | exact ⟨rfl, _, Eq.trans (World.drewN_drewN _ _ _) (congrArg (World.drewN _) (Nat.add_assoc _ _ _))⟩)) | (go_at_call 30; (with_reducible refine (strings_TrimRight.calls (a0.extract 0 (t105 : Int).toNat) (⟨#[46]⟩ : ByteArray) t106 _ A5.out).mono ?_); rintro e w8 ⟨rfl, hb⟩; have n0_ := Aside0.mk (below_step (by repeat (first | (with_reducible first | exact HB.out | apply below_alloc | apply pw_below_drewN | apply below_drew1) | exact HB.out)) hb); clear HB; have HB := n0_; clear n0_; (try clear hb); (try clear hb2); (try clear hk); (try clear hi)) | (go_at_call 32; (with_reducible refine (strings_Split.calls t106 (⟨#[46]⟩ : ByteArray) t107 _ ?side1 A6.out).mono ?_); (case side1 => exact Laid.go hLd (by repeat (first | (with_reducible first | exact HB.out | apply below_alloc | apply pw_below_drewN | apply below_drew1) | exact HB.out))); rintro e w9 ⟨v108, rfl, ho0, hb⟩; have n0_ := Aside0.mk (Kd.R_lower ho0 (below_size (by repeat (first | (with_reducible first | exact HB.out | apply below_alloc | apply pw_below_drewN | apply below_drew1) | exact HB.out)))); have n1_ := Aside0.mk (below_step (by repeat (first | (with_reducible first | exact HB.out | apply below_alloc | apply pw_below_drewN | apply below_drew1) | exact HB.out)) hb); clear HB; have HO109 := n0_; have HB := n1_; clear n0_ n1_; (try clear hb); (try clear hb2); (try clear hk); (try clear hi); (try clear ho0))); go_upto_region 3 with (first | (go_at_call 31; (with_reducible refine (auto_while.calls k a0 (⟨#[45, 95, 46]⟩ : ByteArray) t105 _ A2.out).mono ?_); rintro e w' ⟨rfl, ⟨nd, rfl⟩⟩; (try first | exact ⟨rfl, _, World.drewN_drewN _ _ _⟩ | exact ⟨rfl, _, Eq.trans (World.drewN_drewN _ _ _) (congrArg (World.drewN _) (Nat.add_assoc _ _ _))⟩)) | (go_at_call 30; (with_reducible refine (strings_TrimRight.calls (a0.extract 0 (t105 : Int).toNat) (⟨#[46]⟩ : ByteArray) t106 _ A5.out).mono ?_); rintro e w8 ⟨rfl, hb⟩; have n0_ := Aside0.mk (below_step (by repeat (first | (with_reducible first | exact HB.out | apply below_alloc | apply pw_below_drewN | apply below_drew1) | exact HB.out)) hb); clear HB; have HB := n0_; clear n0_; (try clear hb); (try clear hb2); (try clear hk); (try clear hi)) | (go_at_call 32; (with_reducible refine (strings_Split.calls t106 (⟨#[46]⟩ : ByteArray) t107 _ ?side1 A6.out).mono ?_); (case side1 => exact Laid.go hLd (by repeat (first | (with_reducible first | exact HB.out | apply below_alloc | apply pw_below_drewN | apply below_drew1) | exact HB.out))); rintro e w9 ⟨v108, rfl, ho0, hb⟩; have n0_ := Aside0.mk (Kd.R_lower ho0 (below_size (by repeat (first | (with_reducible first | exact HB.out | apply below_alloc | apply pw_below_drewN | apply below_drew1) | exact HB.out)))); have n1_ := Aside0.mk (below_step (by repeat (first | (with_reducible first | exact HB.out | apply below_alloc | apply pw_below_drewN | apply below_drew1) | exact HB.out)) hb); clear HB; have HO109 := n0_; have HB := n1_; clear n0_ n1_; (try clear hb); (try clear hb2); (try clear hk); (try clear hi); (try clear ho0))))
      (try simp only [Act.put, List.setIfInBounds_toArray, List.set_cons_zero, List.set_cons_succ])
      go_cut [32] (fun v32 wc => ∃ (kq : Nat) (x32_6 : Bool), v32 = .bool x32_6 ∧ Aside0 (auto_host.j0 kq t106 t107 x32_6 = some r) ∧ Aside0 (kq ≤ k) ∧ Aside0 (Kd.R Kd.string 9 wc w.heap.size (fun _ => True) v108 t107) ∧ Aside0 (Below w.heap.size w wc))
      case first =>
        have H := HC7.out
        clear HC7
        by_cases c10 : (t107.length : Int) < 2
        · rw [if_pos c10] at H
          have c10b0 : decide ((t107.length : Int) < 2) = true := decide_eq_true c10
          have c10b1 : decide (t107.length < 2) = true := decide_eq_true (by omega)
          clear c10
          (first | rw [c10b0] | (simp only [i64_w, i32_w]; rw [c10b0]) | skip)
          have H' := Aside0.mk H
          clear H
          obtain ⟨Ao11, co11, eo11⟩ := Kd.R_slice HO109.out
          subst eo11
          go_wp2
          repeat (go_quiet (fail); try go_wp2)
          go_meet
          case rel => exact ⟨_, (true), (by first | rfl | (simp; done) | (simp [*]; done)), H', ⟨by first | omega | exact Nat.le_refl _⟩, ⟨by (with_reducible repeat (first | apply Kd.R_alloc | apply Kd.R_drewN | apply Kd.R_drew)); exact HO109.out⟩, ⟨by repeat (first | (with_reducible first | exact HB.out | apply below_alloc | apply pw_below_drewN | apply below_drew1) | exact HB.out)⟩⟩
        · rw [if_neg c10] at H
          have c10b0 : decide ((t107.length : Int) < 2) = false := decide_eq_false c10
          have c10b1 : decide (t107.length < 2) = false := decide_eq_false (by omega)
          clear c10
          (first | rw [c10b0] | (simp only [i64_w, i32_w]; rw [c10b0]) | skip)
          obtain ⟨ji12, hji12⟩ : ∃ j_ : Int, (wrap64 ((t107.length : Int) - 1)) = j_ := ⟨_, rfl⟩
          replace H : (if 0 ≤ (ji12) then (if (ji12) < (t107.length : Int) then (if 0 ≤ (wrap64 ((t107.length : Int) - 2)) then (if (wrap64 ((t107.length : Int) - 2)) < (t107.length : Int) then (if (rdOf ByteArray.empty t107 (ji12)).size + (rdOf ByteArray.empty t107 (wrap64 ((t107.length : Int) - 2))).size ≤ 9223372036854775807 then ((strings_Contains.f ((rdOf ByteArray.empty t107 (ji12)) ++ (rdOf ByteArray.empty t107 (wrap64 ((t107.length : Int) - 2)))) (⟨#[95]⟩ : ByteArray)).bind fun t112 => (auto_host.j0 k t106 t107 t112)) else (none)) else (none)) else (none)) else (none)) else (none)) = some r := by first | (rw [hji12] at H; exact H) | (simp only [hji12] at H ⊢; exact H)
          have hji12w : (IntKind.i64.wrap ((t107.length : Int) - 1)) = ji12 := (i64_w _).trans hji12
          by_cases c13 : 0 ≤ (ji12)
          · rw [if_pos c13] at H
            have c13b0 : decide (0 ≤ (ji12)) = true := decide_eq_true c13
            clear c13
            by_cases c14 : (ji12) < (t107.length : Int)
            · rw [if_pos c14] at H
              have c14b0 : decide ((ji12) < (t107.length : Int)) = true := decide_eq_true c14
              clear c14
              obtain ⟨ji15, hji15⟩ : ∃ j_ : Int, (wrap64 ((t107.length : Int) - 2)) = j_ := ⟨_, rfl⟩
              replace H : (if 0 ≤ (ji15) then (if (ji15) < (t107.length : Int) then (if (rdOf ByteArray.empty t107 (ji12)).size + (rdOf ByteArray.empty t107 (ji15)).size ≤ 9223372036854775807 then ((strings_Contains.f ((rdOf ByteArray.empty t107 (ji12)) ++ (rdOf ByteArray.empty t107 (ji15))) (⟨#[95]⟩ : ByteArray)).bind fun t112 => (auto_host.j0 k t106 t107 t112)) else (none)) else (none)) else (none)) = some r := by first | (rw [hji15] at H; exact H) | (simp only [hji15] at H ⊢; exact H)
              have hji15w : (IntKind.i64.wrap ((t107.length : Int) - 2)) = ji15 := (i64_w _).trans hji15
              by_cases c16 : 0 ≤ (ji15)
              · rw [if_pos c16] at H
                have c16b0 : decide (0 ≤ (ji15)) = true := decide_eq_true c16
                clear c16
                by_cases c17 : (ji15) < (t107.length : Int)
                · rw [if_pos c17] at H
                  have c17b0 : decide ((ji15) < (t107.length : Int)) = true := decide_eq_true c17
                  clear c17
                  by_cases c18 : (rdOf ByteArray.empty t107 (ji12)).size + (rdOf ByteArray.empty t107 (ji15)).size ≤ 9223372036854775807
                  · rw [if_pos c18] at H
                    have c18b0 := eq_true c18
                    have c18b1 : decide ((rdOf ByteArray.empty t107 (ji12)).size + (rdOf ByteArray.empty t107 (ji15)).size ≤ 9223372036854775807) = true := decide_eq_true c18
                    try have c18b2 : (9223372036854775807 < (rdOf ByteArray.empty t107 (ji12)).size + (rdOf ByteArray.empty t107 (ji15)).size) = False := eq_false (Nat.not_lt.2 c18)
                    replace H := Option.bind_eq_some_iff.mp H
                    obtain ⟨t112, A190, H⟩ := H
                    replace H : (auto_host.j0 k t106 t107 t112) = some r := H
                    have A19 := Aside0.mk A190
                    clear A190
                    have H' := Aside0.mk H
                    clear H
                    obtain ⟨Ao20, co20, eo20⟩ := Kd.R_slice HO109.out
                    subst eo20
                    have p110 : 0 ≤ ((ji12) : Int) := of_decide_eq_true (by first | (with_reducible assumption) | assumption)
                    have q110 : (ji12) < (t107.length : Int) := of_decide_eq_true (by first | (with_reducible assumption) | assumption)
                    obtain ⟨ad110, e110, hx110_0⟩ := Kd.at_string (Kd.R_reads' HO109.out).2.2 (ji12) p110 q110
                    cases e110
                    replace p110 := eq_true p110
                    replace q110 := eq_true q110
                    have p111 : 0 ≤ ((ji15) : Int) := of_decide_eq_true (by first | (with_reducible assumption) | assumption)
                    have q111 : (ji15) < (t107.length : Int) := of_decide_eq_true (by first | (with_reducible assumption) | assumption)
                    obtain ⟨ad111, e111, hx111_0⟩ := Kd.at_string (Kd.R_reads' HO109.out).2.2 (ji15) p111 q111
                    obtain rfl : ad110 = ad111 := (by injection e111)
                    replace p111 := eq_true p111
                    replace q111 := eq_true q111
                    go_wp2_with (first | (go_at_call 33; (with_reducible refine (strings_Contains.calls ((rdOf ByteArray.empty t107 (ji12)) ++ (rdOf ByteArray.empty t107 (ji15))) (⟨#[95]⟩ : ByteArray) t112 _ A19.out).mono ?_); rintro e w' ⟨rfl, ⟨nd, rfl⟩⟩; (try first | exact ⟨rfl, _, World.drewN_drewN _ _ _⟩ | exact ⟨rfl, _, Eq.trans (World.drewN_drewN _ _ _) (congrArg (World.drewN _) (Nat.add_assoc _ _ _))⟩)))
                    repeat (go_quiet (first | (go_at_call 33; (with_reducible refine (strings_Contains.calls ((rdOf ByteArray.empty t107 (ji12)) ++ (rdOf ByteArray.empty t107 (ji15))) (⟨#[95]⟩ : ByteArray) t112 _ A19.out).mono ?_); rintro e w' ⟨rfl, ⟨nd, rfl⟩⟩; (try first | exact ⟨rfl, _, World.drewN_drewN _ _ _⟩ | exact ⟨rfl, _, Eq.trans (World.drewN_drewN _ _ _) (congrArg (World.drewN _) (Nat.add_assoc _ _ _))⟩))); try go_wp2_with (first | (go_at_call 33; (with_reducible refine (strings_Contains.calls ((rdOf ByteArray.empty t107 (ji12)) ++ (rdOf ByteArray.empty t107 (ji15))) (⟨#[95]⟩ : ByteArray) t112 _ A19.out).mono ?_); rintro e w' ⟨rfl, ⟨nd, rfl⟩⟩; (try first | exact ⟨rfl, _, World.drewN_drewN _ _ _⟩ | exact ⟨rfl, _, Eq.trans (World.drewN_drewN _ _ _) (congrArg (World.drewN _) (Nat.add_assoc _ _ _))⟩))))
                    go_meet
                    case rel => exact ⟨_, (t112), (by first | rfl | (simp; done) | (simp [*]; done)), H', ⟨by first | omega | exact Nat.le_refl _⟩, ⟨by (with_reducible repeat (first | apply Kd.R_alloc | apply Kd.R_drewN | apply Kd.R_drew)); exact HO109.out⟩, ⟨by repeat (first | (with_reducible first | exact HB.out | apply below_alloc | apply pw_below_drewN | apply below_drew1) | exact HB.out)⟩⟩
                  · rw [if_neg c18] at H
                    exact absurd H (by simp)
                · rw [if_neg c17] at H
                  exact absurd H (by simp)
              · rw [if_neg c16] at H
                exact absurd H (by simp)
            · rw [if_neg c14] at H
              exact absurd H (by simp)
          · rw [if_neg c13] at H
            exact absurd H (by simp)
      case rest =>
        clear HC7
        try clear c1
        try clear p1
        try clear q1
        try clear hx1
        try clear c2
        try clear p2
        try clear c3
        try clear c3b0
        try clear c3b1
        try clear c4
        try clear c4b0
        try clear c4b1
        try clear p6
        try clear c10
        try clear c10b0
        try clear c10b1
        try clear p11
        try clear q11
        try clear hx11
        try clear c13
        try clear c13b0
        try clear c14
        try clear c14b0
        try clear c16
        try clear c16b0
        try clear c17
        try clear c17b0
        try clear c18
        try clear c18b0
        try clear c18b1
        try clear c18b2
        try clear c20
        try clear hx110_0
        try clear hx111_0
        try clear p110
        try clear p111
        try clear q110
        try clear q111
        obtain ⟨kq, x32_6, rfl, HA, HJ6, HO_4, HB⟩ := hcut
        cases kq with
        | zero => exact absurd HA.out (by simp [auto_host.j0])
        | succ kj6 =>
          have H := HA.out
          clear HA
          simp only [auto_host.j0] at H
          by_cases c21 : x32_6 = true
          · subst c21
            have H1 : (some 0) = some r := by rw [if_pos rfl] at H; exact H
            clear H
            have H := H1
            clear H1
            obtain rfl := Option.some.inj H
            go_wp2
            repeat (go_quiet (fail); try go_wp2)
            go_ret
            exact ⟨by first | rfl | exact retNe _ | (simp [errW_none, errW_some] <;> rfl) | (simp [*, errW_none, errW_some] <;> rfl), by repeat (first | (with_reducible first | exact HB.out | apply below_alloc | apply pw_below_drewN | apply below_drew1) | exact HB.out)⟩
          · replace c21 := Bool.eq_false_iff.mpr c21
            subst c21
            have H1 : (auto_host.l0 kj6 t106 t107 (t107.length : Int) 0) = some r := by rw [if_neg (show ¬ (false = true) by decide)] at H; exact H
            clear H
            have H := H1
            clear H1
            have H' := Aside0.mk H
            clear H
            obtain ⟨Ao22, co22, eo22⟩ := Kd.R_slice HO_4.out
            subst eo22
            go_wp2
            repeat (go_quiet (fail); try go_wp2)
            go_loopg [35] kj6 (fun kq v35 w' => ∃ (x35_2 : Int), v35 = .int .i64 x35_2 ∧ Aside0 (auto_host.l0 kq t106 t107 (t107.length : Int) x35_2 = some r) ∧ Aside0 (kq ≤ kj6) ∧ Aside0 (Kd.R Kd.string 9 w' w.heap.size (fun _ => True) (.slice Ao22 t107.length co22) t107) ∧ Aside0 (Below w.heap.size w w'))
            case atStart => exact ⟨(0), (by first | rfl | (simp; done) | (simp [*]; done)), H', ⟨Nat.le_refl _⟩, ⟨by (with_reducible repeat (first | apply Kd.R_alloc | apply Kd.R_drewN | apply Kd.R_drew)); exact HO_4.out⟩, ⟨by repeat (first | (with_reducible first | exact HB.out | apply below_alloc | apply pw_below_drewN | apply below_drew1) | exact HB.out)⟩⟩
            case round =>
              clear H'
              try clear c1
              try clear p1
              try clear q1
              try clear hx1
              try clear c2
              try clear p2
              try clear c3
              try clear c3b0
              try clear c3b1
              try clear c4
              try clear c4b0
              try clear c4b1
              try clear p6
              try clear c10
              try clear c10b0
              try clear c10b1
              try clear p11
              try clear q11
              try clear hx11
              try clear c13
              try clear c13b0
              try clear c14
              try clear c14b0
              try clear c16
              try clear c16b0
              try clear c17
              try clear c17b0
              try clear c18
              try clear c18b0
              try clear c18b1
              try clear c18b2
              try clear c20
              try clear c21
              try clear hx110_0
              try clear hx111_0
              try clear p1
              try clear p11
              try clear p110
              try clear p111
              try clear p2
              try clear p6
              try clear q1
              try clear q11
              try clear q110
              try clear q111
              obtain ⟨x35_2, rfl, HA, HK2, HO_33, HB⟩ := hrel
              cases gk with
              | zero => exact absurd HA.out (by simp [auto_host.l0])
              | succ k2 =>
                have H := HA.out
                clear HA
                simp only [auto_host.l0] at H
                by_cases c23 : x35_2 < (t107.length : Int)
                · rw [if_pos c23] at H
                  have c23b0 : decide (x35_2 < (t107.length : Int)) = true := decide_eq_true c23
                  clear c23
                  by_cases c24 : 0 ≤ x35_2
                  · rw [if_pos c24] at H
                    have c24b0 : decide (0 ≤ x35_2) = true := decide_eq_true c24
                    clear c24
                    by_cases c25 : x35_2 < (t107.length : Int)
                    · rw [if_pos c25] at H
                      have c25b0 : decide (x35_2 < (t107.length : Int)) = true := decide_eq_true c25
                      clear c25
                      by_cases c26 : (rdOf ByteArray.empty t107 x35_2).toList = ([] : List UInt8)
                      · rw [if_pos c26] at H
                        have c26b0 : ((rdOf ByteArray.empty t107 x35_2).toList == ([] : List UInt8)) = true := beq_iff_eq.mpr c26
                        have c26b1 : ((rdOf ByteArray.empty t107 x35_2).toList != ([] : List UInt8)) = false := bne_eq_false_iff_eq.mpr c26
                        clear c26
                        obtain rfl := Option.some.inj H
                        have p113 : 0 ≤ (x35_2 : Int) := of_decide_eq_true (by first | (with_reducible assumption) | assumption)
                        have q113 : x35_2 < (t107.length : Int) := of_decide_eq_true (by first | (with_reducible assumption) | assumption)
                        obtain ⟨ad113, e113, hx113_0⟩ := Kd.at_string (Kd.R_reads' HO_33.out).2.2 x35_2 p113 q113
                        cases e113
                        replace p113 := eq_true p113
                        replace q113 := eq_true q113
                        go_wp2
                        repeat (go_quiet (fail); try go_wp2)
                        go_ret
                        exact ⟨by first | rfl | exact retNe _ | (simp [errW_none, errW_some] <;> rfl) | (simp [*, errW_none, errW_some] <;> rfl), by repeat (first | (with_reducible first | exact HB.out | apply below_alloc | apply pw_below_drewN | apply below_drew1) | exact HB.out)⟩
                      · rw [if_neg c26] at H
                        have c26b0 : ((rdOf ByteArray.empty t107 x35_2).toList == ([] : List UInt8)) = false := beq_eq_false_iff_ne.mpr c26
                        have c26b1 : ((rdOf ByteArray.empty t107 x35_2).toList != ([] : List UInt8)) = true := bne_iff_ne.mpr c26
                        have H' := Aside0.mk H
                        clear H
                        have p113 : 0 ≤ (x35_2 : Int) := of_decide_eq_true (by first | (with_reducible assumption) | assumption)
                        have q113 : x35_2 < (t107.length : Int) := of_decide_eq_true (by first | (with_reducible assumption) | assumption)
                        obtain ⟨ad113, e113, hx113_0⟩ := Kd.at_string (Kd.R_reads' HO_33.out).2.2 x35_2 p113 q113
                        cases e113
                        replace p113 := eq_true p113
                        replace q113 := eq_true q113
                        go_wp2
                        repeat (go_quiet (fail); try go_wp2)
                        go_roundg k2
                        case measure => have := HJ6.out; have := HK2.out; omega
                        case rel => exact ⟨(wrap64 (x35_2 + 1)), (by first | rfl | (simp; done) | (simp [*]; done)), H', ⟨by have := HJ6.out; have := HK2.out; omega⟩, ⟨by (with_reducible repeat (first | apply Kd.R_alloc | apply Kd.R_drewN | apply Kd.R_drew)); exact HO_33.out⟩, ⟨by repeat (first | (with_reducible first | exact HB.out | apply below_alloc | apply pw_below_drewN | apply below_drew1) | exact HB.out)⟩⟩
                    · rw [if_neg c25] at H
                      exact absurd H (by simp)
                  · rw [if_neg c24] at H
                    exact absurd H (by simp)
                · rw [if_neg c23] at H
                  have c23b0 : decide (x35_2 < (t107.length : Int)) = false := decide_eq_false c23
                  clear c23
                  obtain rfl := Option.some.inj H
                  go_wp2
                  repeat (go_quiet (fail); try go_wp2)
                  go_ret
                  exact ⟨by first | rfl | exact retNe _ | (simp [errW_none, errW_some] <;> rfl) | (simp [*, errW_none, errW_some] <;> rfl), by repeat (first | (with_reducible first | exact HB.out | apply below_alloc | apply pw_below_drewN | apply below_drew1) | exact HB.out)⟩
    · rw [if_neg c4] at H
      exact absurd H (by simp)
  · rw [if_neg c3] at H
    exact absurd H (by simp)




/-! ### auto_reference: function 48 -/
def auto_reference.f (k : Nat) (a0 : ByteArray) : Option (Int) := (strings_LastIndexByte.f a0 38).bind fun t114 => (if t114 < 0 then (some 0) else (if (wrap64 (t114 + 2)) ≥ (a0.size : Int) then (some 0) else (if 0 ≤ (wrap64 (t114 + 1)) then (if (wrap64 (t114 + 1)) ≤ (a0.size : Int) then ((auto_while.f k (a0.extract ((wrap64 (t114 + 1)) : Int).toNat a0.size) (⟨#[]⟩ : ByteArray)).bind fun t115 => (if t115 = (wrap64 ((wrap64 ((a0.size : Int) - t114)) - 2)) then (some (wrap64 ((a0.size : Int) - t114))) else (some 0))) else (none)) else (none))))
theorem auto_reference.mono : ∀ a0 k, LeO (auto_reference.f k a0) (auto_reference.f (k + 1) a0) := by
  intro a0 k
  unfold auto_reference.f
  repeat' first
      | (with_reducible exact auto_while.mono _ _ _)
      | (with_reducible exact LeO.refl _)
      | (with_reducible exact LeO.none _)
      | (with_reducible refine LeO.ite ?_ ?_)
      | (with_reducible refine LeO.bind ?_ (fun _ => ?_))
      | exact auto_while.mono _ _ _
      | exact LeO.none _
      | refine LeO.ite ?_ ?_
      | refine LeO.bind ?_ (fun _ => ?_)
set_option maxHeartbeats 8000000 in
set_option maxRecDepth 100000 in
theorem auto_reference.calls (k : Nat) (a0 : ByteArray) (r : Int) (w : World) (h : auto_reference.f k a0 = some r) :
    Calls Tryd.prog 48 #[.string a0] w fun e w' => e = .returned (.int .i64 r) ∧ Drawn0 w w' := by
  have H : ((strings_LastIndexByte.f a0 38).bind fun t114 => (if t114 < 0 then (some 0) else (if (wrap64 (t114 + 2)) ≥ (a0.size : Int) then (some 0) else (if 0 ≤ (wrap64 (t114 + 1)) then (if (wrap64 (t114 + 1)) ≤ (a0.size : Int) then ((auto_while.f k (a0.extract ((wrap64 (t114 + 1)) : Int).toNat a0.size) (⟨#[]⟩ : ByteArray)).bind fun t115 => (if t115 = (wrap64 ((wrap64 ((a0.size : Int) - t114)) - 2)) then (some (wrap64 ((a0.size : Int) - t114))) else (some 0))) else (none)) else (none))))) = some r := h
  clear h
  replace H := Option.bind_eq_some_iff.mp H
  obtain ⟨t114, A20, H⟩ := H
  replace H : (if t114 < 0 then (some 0) else (if (wrap64 (t114 + 2)) ≥ (a0.size : Int) then (some 0) else (if 0 ≤ (wrap64 (t114 + 1)) then (if (wrap64 (t114 + 1)) ≤ (a0.size : Int) then ((auto_while.f k (a0.extract ((wrap64 (t114 + 1)) : Int).toNat a0.size) (⟨#[]⟩ : ByteArray)).bind fun t115 => (if t115 = (wrap64 ((wrap64 ((a0.size : Int) - t114)) - 2)) then (some (wrap64 ((a0.size : Int) - t114))) else (some 0))) else (none)) else (none)))) = some r := H
  have A2 := Aside0.mk A20
  clear A20
  by_cases c3 : t114 < 0
  · rw [if_pos c3] at H
    have c3b0 : decide (t114 < 0) = true := decide_eq_true c3
    clear c3
    obtain rfl := Option.some.inj H
    go_enter Tryd.func48, Tryd.ntmps48
    go_wp2_with (first | ((with_reducible refine gate_callee (f := 60) rfl ?_); refine goesL_ (some 5) rfl rfl Tryd.func60 (by kernel_rfl) rfl #[.string a0, .int .u8 38] rfl (by (try simp only [List.map_toArray, List.map_cons, List.map_nil]); first | done | rfl | (simp only [List.length_drop, List.length_take]; rfl)) ?_; (with_reducible refine (strings_LastIndexByte.calls a0 38 t114 _ A2.out).mono ?_); rintro e w' ⟨rfl, ⟨nd, rfl⟩⟩; refine ⟨_, rfl, ?_⟩))
    go_ret
    exact ⟨by first | rfl | exact retNe _ | (simp; done) | (simp [*]; done), by repeat (first | exact Drawn0.refl _ | apply Drawn0.step)⟩
  · rw [if_neg c3] at H
    have c3b0 : decide (t114 < 0) = false := decide_eq_false c3
    clear c3
    by_cases c4 : (wrap64 (t114 + 2)) ≥ (a0.size : Int)
    · rw [if_pos c4] at H
      have c4b0 : decide ((a0.size : Int) ≤ (wrap64 (t114 + 2))) = true := decide_eq_true c4
      clear c4
      obtain rfl := Option.some.inj H
      go_enter Tryd.func48, Tryd.ntmps48
      go_wp2_with (first | ((with_reducible refine gate_callee (f := 60) rfl ?_); refine goesL_ (some 5) rfl rfl Tryd.func60 (by kernel_rfl) rfl #[.string a0, .int .u8 38] rfl (by (try simp only [List.map_toArray, List.map_cons, List.map_nil]); first | done | rfl | (simp only [List.length_drop, List.length_take]; rfl)) ?_; (with_reducible refine (strings_LastIndexByte.calls a0 38 t114 _ A2.out).mono ?_); rintro e w' ⟨rfl, ⟨nd, rfl⟩⟩; refine ⟨_, rfl, ?_⟩))
      go_ret
      exact ⟨by first | rfl | exact retNe _ | (simp; done) | (simp [*]; done), by repeat (first | exact Drawn0.refl _ | apply Drawn0.step)⟩
    · rw [if_neg c4] at H
      have c4b0 : decide ((a0.size : Int) ≤ (wrap64 (t114 + 2))) = false := decide_eq_false c4
      clear c4
      obtain ⟨ji5, hji5⟩ : ∃ j_ : Int, (wrap64 (t114 + 1)) = j_ := ⟨_, rfl⟩
      replace H : (if 0 ≤ (ji5) then (if (ji5) ≤ (a0.size : Int) then ((auto_while.f k (a0.extract ((ji5) : Int).toNat a0.size) (⟨#[]⟩ : ByteArray)).bind fun t115 => (if t115 = (wrap64 ((wrap64 ((a0.size : Int) - t114)) - 2)) then (some (wrap64 ((a0.size : Int) - t114))) else (some 0))) else (none)) else (none)) = some r := by first | (rw [hji5] at H; exact H) | (simp only [hji5] at H ⊢; exact H)
      (try rw [hji5] at A2)
      have hji5w : (IntKind.i64.wrap (t114 + 1)) = ji5 := (i64_w _).trans hji5
      by_cases c6 : 0 ≤ (ji5)
      · rw [if_pos c6] at H
        have c6b0 := eq_true c6
        have c6b1 : decide (0 ≤ (ji5)) = true := decide_eq_true c6
        clear c6
        by_cases c7 : (ji5) ≤ (a0.size : Int)
        · rw [if_pos c7] at H
          have c7b0 := eq_true c7
          have c7b1 : decide ((ji5) ≤ (a0.size : Int)) = true := decide_eq_true c7
          clear c7
          replace H := Option.bind_eq_some_iff.mp H
          obtain ⟨t115, A80, H⟩ := H
          replace H : (if t115 = (wrap64 ((wrap64 ((a0.size : Int) - t114)) - 2)) then (some (wrap64 ((a0.size : Int) - t114))) else (some 0)) = some r := H
          have A8 := Aside0.mk A80
          clear A80
          by_cases c9 : t115 = (wrap64 ((wrap64 ((a0.size : Int) - t114)) - 2))
          · rw [if_pos c9] at H
            have c9b0 : (t115 == (wrap64 ((wrap64 ((a0.size : Int) - t114)) - 2))) = true := beq_iff_eq.mpr c9
            have c9b1 : (t115 != (wrap64 ((wrap64 ((a0.size : Int) - t114)) - 2))) = false := bne_eq_false_iff_eq.mpr c9
            clear c9
            obtain rfl := Option.some.inj H
            go_enter Tryd.func48, Tryd.ntmps48
            go_wp2_with (first | ((with_reducible refine gate_callee (f := 60) rfl ?_); refine goesL_ (some 5) rfl rfl Tryd.func60 (by kernel_rfl) rfl #[.string a0, .int .u8 38] rfl (by (try simp only [List.map_toArray, List.map_cons, List.map_nil]); first | done | rfl | (simp only [List.length_drop, List.length_take]; rfl)) ?_; (with_reducible refine (strings_LastIndexByte.calls a0 38 t114 _ A2.out).mono ?_); rintro e w' ⟨rfl, ⟨nd, rfl⟩⟩; refine ⟨_, rfl, ?_⟩) | (go_at_call 31; (with_reducible refine (auto_while.calls k (a0.extract ((ji5) : Int).toNat a0.size) (⟨#[]⟩ : ByteArray) t115 _ A8.out).mono ?_); rintro e w' ⟨rfl, ⟨nd, rfl⟩⟩))
            go_ret
            exact ⟨by first | rfl | exact retNe _ | (simp; done) | (simp only [← hji5] <;> (first | rfl | simp)) | (simp [*]; done), by repeat (first | exact Drawn0.refl _ | apply Drawn0.step)⟩
          · rw [if_neg c9] at H
            have c9b0 : (t115 == (wrap64 ((wrap64 ((a0.size : Int) - t114)) - 2))) = false := beq_eq_false_iff_ne.mpr c9
            have c9b1 : (t115 != (wrap64 ((wrap64 ((a0.size : Int) - t114)) - 2))) = true := bne_iff_ne.mpr c9
            obtain rfl := Option.some.inj H
            go_enter Tryd.func48, Tryd.ntmps48
            go_wp2_with (first | ((with_reducible refine gate_callee (f := 60) rfl ?_); refine goesL_ (some 5) rfl rfl Tryd.func60 (by kernel_rfl) rfl #[.string a0, .int .u8 38] rfl (by (try simp only [List.map_toArray, List.map_cons, List.map_nil]); first | done | rfl | (simp only [List.length_drop, List.length_take]; rfl)) ?_; (with_reducible refine (strings_LastIndexByte.calls a0 38 t114 _ A2.out).mono ?_); rintro e w' ⟨rfl, ⟨nd, rfl⟩⟩; refine ⟨_, rfl, ?_⟩) | (go_at_call 31; (with_reducible refine (auto_while.calls k (a0.extract ((ji5) : Int).toNat a0.size) (⟨#[]⟩ : ByteArray) t115 _ A8.out).mono ?_); rintro e w' ⟨rfl, ⟨nd, rfl⟩⟩))
            go_ret
            exact ⟨by first | rfl | exact retNe _ | (simp; done) | (simp only [← hji5] <;> (first | rfl | simp)) | (simp [*]; done), by repeat (first | exact Drawn0.refl _ | apply Drawn0.step)⟩
        · rw [if_neg c7] at H
          exact absurd H (by simp)
      · rw [if_neg c6] at H
        exact absurd H (by simp)

/-! ### auto_excess: function 35 -/
def auto_excess.j0 : Nat → ByteArray → Int → Bool → Option (Int)
  | 0, _, _, _ => none
  | k + 1, x0, x3, x13 => if x13 = true then (some 1) else (if x3 = 59 then ((auto_reference.f k x0).bind fun t119 => (some t119)) else (some 0))
def auto_excess.f (k : Nat) (a0 : ByteArray) : Option (Int) := if 0 ≤ (wrap64 ((a0.size : Int) - 1)) then (if (wrap64 ((a0.size : Int) - 1)) < (a0.size : Int) then ((strings_IndexByte.f (⟨#[63, 33, 46, 44, 58, 42, 95, 126, 39, 34]⟩ : ByteArray) (bt a0 (wrap64 ((a0.size : Int) - 1)))).bind fun t116 => (if t116 ≥ 0 then (some 1) else (if (bt a0 (wrap64 ((a0.size : Int) - 1))) = 41 then ((strings_Count.f a0 (⟨#[41]⟩ : ByteArray)).bind fun t117 => ((strings_Count.f a0 (⟨#[40]⟩ : ByteArray)).bind fun t118 => (auto_excess.j0 k a0 (bt a0 (wrap64 ((a0.size : Int) - 1))) (decide (t117 > t118))))) else (auto_excess.j0 k a0 (bt a0 (wrap64 ((a0.size : Int) - 1))) false)))) else (none)) else (none)
theorem auto_excess.mono_l : ∀ k, (∀ y0 y1 y2, LeO (auto_excess.j0 k y0 y1 y2) (auto_excess.j0 (k + 1) y0 y1 y2))
  | 0 => fun _ _ _ r h => by simp [auto_excess.j0] at h
  | k + 1 => by
    have ih0 := auto_excess.mono_l k
    · intro y0 y1 y2
      unfold auto_excess.j0
      repeat' first
      | (with_reducible exact ih0 _ _ _)
      | (with_reducible exact auto_reference.mono _ _)
      | (with_reducible exact LeO.refl _)
      | (with_reducible exact LeO.none _)
      | (with_reducible refine LeO.ite ?_ ?_)
      | (with_reducible refine LeO.bind ?_ (fun _ => ?_))
      | exact ih0 _ _ _
      | exact auto_reference.mono _ _
      | exact LeO.none _
      | refine LeO.ite ?_ ?_
      | refine LeO.bind ?_ (fun _ => ?_)
theorem auto_excess.mono : ∀ a0 k, LeO (auto_excess.f k a0) (auto_excess.f (k + 1) a0) := by
  intro a0 k
  have ih0 := auto_excess.mono_l k
  unfold auto_excess.f
  repeat' first
      | (with_reducible exact ih0 _ _ _)
      | (with_reducible exact auto_reference.mono _ _)
      | (with_reducible exact LeO.refl _)
      | (with_reducible exact LeO.none _)
      | (with_reducible refine LeO.ite ?_ ?_)
      | (with_reducible refine LeO.bind ?_ (fun _ => ?_))
      | exact ih0 _ _ _
      | exact auto_reference.mono _ _
      | exact LeO.none _
      | refine LeO.ite ?_ ?_
      | refine LeO.bind ?_ (fun _ => ?_)
set_option maxHeartbeats 8000000 in
set_option maxRecDepth 100000 in
theorem auto_excess.calls (k : Nat) (a0 : ByteArray) (r : Int) (w : World) (h : auto_excess.f k a0 = some r) :
    Calls Tryd.prog 35 #[.string a0] w fun e w' => e = .returned (.int .i64 r) ∧ Drawn0 w w' := by
  have H : (if 0 ≤ (wrap64 ((a0.size : Int) - 1)) then (if (wrap64 ((a0.size : Int) - 1)) < (a0.size : Int) then ((strings_IndexByte.f (⟨#[63, 33, 46, 44, 58, 42, 95, 126, 39, 34]⟩ : ByteArray) (bt a0 (wrap64 ((a0.size : Int) - 1)))).bind fun t116 => (if t116 ≥ 0 then (some 1) else (if (bt a0 (wrap64 ((a0.size : Int) - 1))) = 41 then ((strings_Count.f a0 (⟨#[41]⟩ : ByteArray)).bind fun t117 => ((strings_Count.f a0 (⟨#[40]⟩ : ByteArray)).bind fun t118 => (auto_excess.j0 k a0 (bt a0 (wrap64 ((a0.size : Int) - 1))) (decide (t117 > t118))))) else (auto_excess.j0 k a0 (bt a0 (wrap64 ((a0.size : Int) - 1))) false)))) else (none)) else (none)) = some r := h
  clear h
  obtain ⟨ji2, hji2⟩ : ∃ j_ : Int, (wrap64 ((a0.size : Int) - 1)) = j_ := ⟨_, rfl⟩
  replace H : (if 0 ≤ (ji2) then (if (ji2) < (a0.size : Int) then ((strings_IndexByte.f (⟨#[63, 33, 46, 44, 58, 42, 95, 126, 39, 34]⟩ : ByteArray) (bt a0 (ji2))).bind fun t116 => (if t116 ≥ 0 then (some 1) else (if (bt a0 (ji2)) = 41 then ((strings_Count.f a0 (⟨#[41]⟩ : ByteArray)).bind fun t117 => ((strings_Count.f a0 (⟨#[40]⟩ : ByteArray)).bind fun t118 => (auto_excess.j0 k a0 (bt a0 (ji2)) (decide (t117 > t118))))) else (auto_excess.j0 k a0 (bt a0 (ji2)) false)))) else (none)) else (none)) = some r := by first | (rw [hji2] at H; exact H) | (simp only [hji2] at H ⊢; exact H)
  have hji2w : (IntKind.i64.wrap ((a0.size : Int) - 1)) = ji2 := (i64_w _).trans hji2
  by_cases c3 : 0 ≤ (ji2)
  · rw [if_pos c3] at H
    have c3b0 : decide (0 ≤ (ji2)) = true := decide_eq_true c3
    clear c3
    by_cases c4 : (ji2) < (a0.size : Int)
    · rw [if_pos c4] at H
      have c4b0 : decide ((ji2) < (a0.size : Int)) = true := decide_eq_true c4
      clear c4
      replace H := Option.bind_eq_some_iff.mp H
      obtain ⟨t116, A60, H⟩ := H
      replace H : (if t116 ≥ 0 then (some 1) else (if (bt a0 (ji2)) = 41 then ((strings_Count.f a0 (⟨#[41]⟩ : ByteArray)).bind fun t117 => ((strings_Count.f a0 (⟨#[40]⟩ : ByteArray)).bind fun t118 => (auto_excess.j0 k a0 (bt a0 (ji2)) (decide (t117 > t118))))) else (auto_excess.j0 k a0 (bt a0 (ji2)) false))) = some r := H
      have A6 := Aside0.mk A60
      clear A60
      by_cases c7 : t116 ≥ 0
      · rw [if_pos c7] at H
        have c7b0 : decide (0 ≤ t116) = true := decide_eq_true c7
        clear c7
        obtain rfl := Option.some.inj H
        have p5 : 0 ≤ ((ji2) : Int) := of_decide_eq_true (by first | (with_reducible assumption) | assumption)
        have q5 : (ji2) < (a0.size : Int) := of_decide_eq_true (by first | (with_reducible assumption) | assumption)
        have hx5 := bt_at a0 (ji2)
        replace p5 := eq_true p5
        replace q5 := eq_true q5
        go_enter Tryd.func35, Tryd.ntmps35
        go_wp2_with (first | ((with_reducible refine gate_callee (f := 13) rfl ?_); refine goesL_ (some 11) rfl rfl Tryd.func13 (by kernel_rfl) rfl #[.string (⟨#[63, 33, 46, 44, 58, 42, 95, 126, 39, 34]⟩ : ByteArray), .int .u8 (bt a0 (ji2))] rfl (by (try simp only [List.map_toArray, List.map_cons, List.map_nil]); first | done | (simp only [hji2]; rfl) | rfl | (simp only [List.length_drop, List.length_take]; rfl)) ?_; (with_reducible refine (strings_IndexByte.calls (⟨#[63, 33, 46, 44, 58, 42, 95, 126, 39, 34]⟩ : ByteArray) (bt a0 (ji2)) t116 _ A6.out).mono ?_); rintro e w' ⟨rfl, ⟨nd, rfl⟩⟩; refine ⟨_, rfl, ?_⟩))
        go_ret
        exact ⟨by first | rfl | exact retNe _ | (simp; done) | (simp only [← hji2] <;> (first | rfl | simp)) | (simp [*]; done), by repeat (first | exact Drawn0.refl _ | apply Drawn0.step)⟩
      · rw [if_neg c7] at H
        have c7b0 : decide (0 ≤ t116) = false := decide_eq_false c7
        clear c7
        have HC8 := Aside0.mk H
        clear H
        have p5 : 0 ≤ ((ji2) : Int) := of_decide_eq_true (by first | (with_reducible assumption) | assumption)
        have q5 : (ji2) < (a0.size : Int) := of_decide_eq_true (by first | (with_reducible assumption) | assumption)
        have hx5 := bt_at a0 (ji2)
        replace p5 := eq_true p5
        replace q5 := eq_true q5
        go_enter Tryd.func35, Tryd.ntmps35
        go_upto_region 4 with (first | ((with_reducible refine gate_callee (f := 13) rfl ?_); refine goesL_ (some 11) rfl rfl Tryd.func13 (by kernel_rfl) rfl #[.string (⟨#[63, 33, 46, 44, 58, 42, 95, 126, 39, 34]⟩ : ByteArray), .int .u8 (bt a0 (ji2))] rfl (by (try simp only [List.map_toArray, List.map_cons, List.map_nil]); first | done | (simp only [hji2]; rfl) | rfl | (simp only [List.length_drop, List.length_take]; rfl)) ?_; (with_reducible refine (strings_IndexByte.calls (⟨#[63, 33, 46, 44, 58, 42, 95, 126, 39, 34]⟩ : ByteArray) (bt a0 (ji2)) t116 _ A6.out).mono ?_); rintro e w' ⟨rfl, ⟨nd, rfl⟩⟩; refine ⟨_, rfl, ?_⟩))
        (try simp only [Act.put, List.setIfInBounds_toArray, List.set_cons_zero, List.set_cons_succ])
        go_cut [13] (fun v13 wc => ∃ (kq : Nat) (x13_7 : Bool), v13 = .bool x13_7 ∧ Aside0 (auto_excess.j0 kq a0 (bt a0 (ji2)) x13_7 = some r) ∧ Aside0 (kq ≤ k) ∧ Drawn0 w wc)
        case first =>
          have H := HC8.out
          clear HC8
          by_cases c9 : (bt a0 (ji2)) = 41
          · rw [if_pos c9] at H
            have c9b0 : ((bt a0 (ji2)) == 41) = true := beq_iff_eq.mpr c9
            have c9b1 : ((bt a0 (ji2)) != 41) = false := bne_eq_false_iff_eq.mpr c9
            clear c9
            (first | rw [c9b0] | (simp only [i64_w, i32_w]; rw [c9b0]) | skip)
            replace H := Option.bind_eq_some_iff.mp H
            obtain ⟨t117, A100, H⟩ := H
            replace H : ((strings_Count.f a0 (⟨#[40]⟩ : ByteArray)).bind fun t118 => (auto_excess.j0 k a0 (bt a0 (ji2)) (decide (t117 > t118)))) = some r := H
            have A10 := Aside0.mk A100
            clear A100
            replace H := Option.bind_eq_some_iff.mp H
            obtain ⟨t118, A110, H⟩ := H
            replace H : (auto_excess.j0 k a0 (bt a0 (ji2)) (decide (t117 > t118))) = some r := H
            have A11 := Aside0.mk A110
            clear A110
            have H' := Aside0.mk H
            clear H
            go_wp2_with (first | (go_at_call 47; (with_reducible refine (strings_Count.calls a0 (⟨#[41]⟩ : ByteArray) t117 _ A10.out).mono ?_); rintro e w' ⟨rfl, ⟨nd, rfl⟩⟩) | (go_at_call 47; (with_reducible refine (strings_Count.calls a0 (⟨#[40]⟩ : ByteArray) t118 _ A11.out).mono ?_); rintro e w' ⟨rfl, ⟨nd, rfl⟩⟩))
            go_meet
            case rel => exact ⟨_, (decide (t117 > t118)), (by first | rfl | (simp; done) | (simp [*]; done)), H', ⟨by first | omega | exact Nat.le_refl _⟩, by repeat (first | exact Drawn0.refl _ | apply Drawn0.step)⟩
          · rw [if_neg c9] at H
            have c9b0 : ((bt a0 (ji2)) == 41) = false := beq_eq_false_iff_ne.mpr c9
            have c9b1 : ((bt a0 (ji2)) != 41) = true := bne_iff_ne.mpr c9
            (first | rw [c9b0] | (simp only [i64_w, i32_w]; rw [c9b0]) | skip)
            have H' := Aside0.mk H
            clear H
            go_wp2
            go_meet
            case rel => exact ⟨_, (false), (by first | rfl | (simp; done) | (simp [*]; done)), H', ⟨by first | omega | exact Nat.le_refl _⟩, by repeat (first | exact Drawn0.refl _ | apply Drawn0.step)⟩
        case rest =>
          clear HC8
          try clear c1
          try clear p2
          try clear c3
          try clear c3b0
          try clear c4
          try clear c4b0
          try clear p5
          try clear q5
          try clear hx5
          try clear p6
          try clear c7
          try clear c7b0
          try clear c9
          try clear c9b0
          try clear c9b1
          try clear p5
          try clear q5
          obtain ⟨kq, x13_7, rfl, HA, HJ7, ⟨mc7, rfl⟩⟩ := hcut
          cases kq with
          | zero => exact absurd HA.out (by simp [auto_excess.j0])
          | succ kj7 =>
            have H := HA.out
            clear HA
            simp only [auto_excess.j0] at H
            by_cases c12 : x13_7 = true
            · subst c12
              have H1 : (some 1) = some r := by rw [if_pos rfl] at H; exact H
              clear H
              have H := H1
              clear H1
              obtain rfl := Option.some.inj H
              go_wp2
              go_ret
              exact ⟨by first | rfl | exact retNe _ | (simp; done) | (simp only [← hji2] <;> (first | rfl | simp)) | (simp [*]; done), by repeat (first | exact Drawn0.refl _ | apply Drawn0.step)⟩
            · replace c12 := Bool.eq_false_iff.mpr c12
              subst c12
              have H1 : (if (bt a0 (ji2)) = 59 then ((auto_reference.f kj7 a0).bind fun t119 => (some t119)) else (some 0)) = some r := by rw [if_neg (show ¬ (false = true) by decide)] at H; exact H
              clear H
              have H := H1
              clear H1
              by_cases c13 : (bt a0 (ji2)) = 59
              · rw [if_pos c13] at H
                have c13b0 : ((bt a0 (ji2)) == 59) = true := beq_iff_eq.mpr c13
                have c13b1 : ((bt a0 (ji2)) != 59) = false := bne_eq_false_iff_eq.mpr c13
                clear c13
                replace H := Option.bind_eq_some_iff.mp H
                obtain ⟨t119, A140, H⟩ := H
                replace H : (some t119) = some r := H
                have A14 := Aside0.mk A140
                clear A140
                obtain rfl := Option.some.inj H
                go_wp2_with (first | ((with_reducible refine gate_callee (f := 48) rfl ?_); refine goesL_ (some 27) rfl rfl Tryd.func48 (by kernel_rfl) rfl #[.string a0] rfl (by (try simp only [List.map_toArray, List.map_cons, List.map_nil]); first | done | rfl | (simp only [List.length_drop, List.length_take]; rfl)) ?_; (with_reducible refine (auto_reference.calls kj7 a0 t119 _ A14.out).mono ?_); rintro e w' ⟨rfl, ⟨nd, rfl⟩⟩; refine ⟨_, rfl, ?_⟩))
                go_ret
                exact ⟨by first | rfl | exact retNe _ | (simp; done) | (simp only [← hji2] <;> (first | rfl | simp)) | (simp [*]; done), by repeat (first | exact Drawn0.refl _ | apply Drawn0.step)⟩
              · rw [if_neg c13] at H
                have c13b0 : ((bt a0 (ji2)) == 59) = false := beq_eq_false_iff_ne.mpr c13
                have c13b1 : ((bt a0 (ji2)) != 59) = true := bne_iff_ne.mpr c13
                obtain rfl := Option.some.inj H
                go_wp2
                go_ret
                exact ⟨by first | rfl | exact retNe _ | (simp; done) | (simp only [← hji2] <;> (first | rfl | simp)) | (simp [*]; done), by repeat (first | exact Drawn0.refl _ | apply Drawn0.step)⟩
    · rw [if_neg c4] at H
      exact absurd H (by simp)
  · rw [if_neg c3] at H
    exact absurd H (by simp)

end Go.Proofs.YtddmddlaamcpiaaDoor.PA
