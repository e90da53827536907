/-
  Texts of the proof of TableNodes, part 1 of 3: contracts and plain laws. Conditions: see each statement.
-/
import Derived.Test.YthbadcdiagcfkaaDoorProg
import Derived.Below
import Derived.Deep.Draws
import Derived.Deep.AppendLies
import Derived.Maps.AppendAt
import Derived.OwnWalk
import Derived.Laws.BytesArg
import Derived.Laws.MakeOwn
import Derived.Laws.OwnMore
import Derived.Deep.OwnRows
import Derived.Tactics
import Derived.Lib.ConvBytes
import Derived.Laws.Slices
import Derived.WalkKit
import Derived.KernelRfl
import Derived.RowKit3
import Derived.Deep.LoopGhost
import Derived.Deep.QuietTactic
import Derived.BigQuiet
import Derived.WideLaws
import Derived.Deep.DeepCutAuto
import Derived.Deep.CutBlock
import Derived.Deep.RegionHeld3
import Derived.Laws.Rows
import Derived.Lib.AppendStr
import Derived.ArgAppend
import Derived.Laws.IdiomCopy
import Derived.OrdersHeld
import Derived.Laws.BitsLemmas
import Derived.RowKit
import Derived.Test.YthbadcdiagcfkaaDoorWWords
import Derived.Test.YthbadcdiagcfkaaDoorWLast
import Derived.Test.YthbadcdiagcfkaaDoorWTab
import Derived.Test.YthbadcdiagcfkaaDoorWFour
import Derived.Test.YthbadcdiagcfkaaDoorWQPut
import Derived.Test.YthbadcdiagcfkaaDoorWApart
import Derived.Test.YthbadcdiagcfkaaDoorWArr
import Derived.Test.YthbadcdiagcfkaaDoorWZeros
import Derived.Test.YthbadcdiagcfkaaDoorWFoot
import Derived.Test.YthbadcdiagcfkaaDoorWKept
import Derived.Test.YthbadcdiagcfkaaDoorWShare
import Derived.Test.YthbadcdiagcfkaaDoorWN
import Derived.Test.YthbadcdiagcfkaaDoorWFootNe
import Derived.Test.YthbadcdiagcfkaaDoorWAt
import Derived.Test.YthbadcdiagcfkaaDoorWEqStruct
import Derived.Test.YthbadcdiagcfkaaDoorWRepsOne
import Derived.Test.YthbadcdiagcfkaaDoorWInv
import Derived.Test.YthbadcdiagcfkaaDoorWInvWords
import Derived.Test.YthbadcdiagcfkaaDoorWGuard
import Derived.Test.YthbadcdiagcfkaaDoorWNEv
import Derived.Test.YthbadcdiagcfkaaDoorWMore
import Derived.Shelf.Strings.SlTrimAscii
import Derived.Shelf.Strings.Builder1
import Derived.Shelf.Strings.Builder2
import Derived.Shelf.Strings.OnBuilder
import Derived.Shelf.Strings.Trim
import Derived.Shelf.Small.Utf8
import Derived.Shelf.Small.Strs
import Derived.Shelf.Small.Wraps
import Derived.Shelf.Strings.BuilderF
import Derived.Shelf.Strings.BuilderK
import Derived.Shelf.Utf8.RuneCount
import Derived.Shelf.Strings.Search1
import Derived.Shelf.Strings.Search2
import Derived.Shelf.Strings.Search3
import Derived.Shelf.Strings.Count
import Derived.Shelf.LaysM
import Derived.Shelf.Strings.Shaped
import Derived.Shelf.Strings.Prefix
import Derived.Shelf.Strings.Split
import Derived.Shelf.Strings.Replace
import Derived.Shelf.Strings.SplitShaped
import Derived.Shelf.Unicode.Decode
import Derived.Shelf.Strings.Runes
import Derived.Shelf.Strings.RuneCount
import Derived.Shelf.Strings.AsciiSet
import Derived.Shelf.Strings.Explode
import Derived.Shelf.Unicode.DecodeSlow
import Derived.Shelf.Unicode.DecodeAny
import Derived.Shelf.Unicode.DecodeLast
import Derived.Shelf.Lays
import Derived.Test.YthbadcdiagcfkaaDoorCards
import Derived.Test.YthbadcdiagcfkaaDoorTie
import Derived.ProofKit
import Derived.OpenShut
import Derived.ShutString
import Derived.ChangeOld
import Derived.SizedLaws
import Derived.Deep.DeepHandedRow
import Derived.Lib.LaidTab
import Derived.Lib.LaidU8
import Derived.Shelf.Vars
import Derived.Test.YthbadcdiagcfkaaDoorWSized
import Derived.Deep.Slices
import Derived.Lib.SplitLaws
import Derived.Lib.Strings
import Derived.BigCall
import Derived.Laws.CopyRow
import Derived.Laws.CopyOwn
import Derived.RangeFuncNested
import Derived.RangeFuncBound
import Derived.RangeFuncCalls
import Derived.RangeFuncLeaves
import Derived.Shelf.Abstract
import Derived.Shelf.RegionOpen
import Derived.OwnWalkIn
import Derived.TacticsInMore
import Derived.LoopNIn
import Derived.LoopIn
import Derived.Lib.Hide
import Derived.RangeFuncBox
set_option linter.unusedVariables false
namespace Go.Proofs.YthbadcdiagcfkaaDoor.PA
open Go.RowKit Go.Proofs.YthbadcdiagcfkaaDoorW.PrintWords Go.Proofs.YthbadcdiagcfkaaDoorW.PrintLast Go.Proofs.YthbadcdiagcfkaaDoorW.PrintMore
attribute [local go_sem] max2_int min2_int max_two min_two max_three min_three max_four min_four   -- for this text's walks alone
set_option linter.unusedVariables false
set_option linter.unusedSimpArgs false



def errW : Option Int → Value
  | none => .nilIface
  | some c => .iface 0 (.int .i64 c)
theorem errW_none : errW none = .nilIface := rfl
theorem errW_some (c : Int) : errW (some c) = .iface 0 (.int .i64 c) := rfl

theorem info3 : (Tryd.prog.info? 3).map (fun i => (i.zero, i.size, i.bytes)) = some (some (.int .i64 0), 1, 8) := by kernel_rfl
theorem info9 : (Tryd.prog.info? 9).map (fun i => (i.zero, i.size, i.bytes)) = some (some (.string ⟨#[]⟩), 1, 16) := by kernel_rfl
theorem info27 : (Tryd.prog.info? 27).map (fun i => (i.zero, i.size, i.bytes)) = some (some (.slice none 0 0), 1, 24) := by kernel_rfl
def rd_L2 (xs : List (List ByteArray)) (i : Int) : (List ByteArray) := xs.getD i.toNat ([] : List ByteArray)
theorem at_L2 {w : World} {A : Option Addr} {n : Nat} {xs : List (List ByteArray)} (h : Kd.C (Kd.slice 9 Kd.string) w A n xs) (i : Int) (h0 : 0 ≤ i) (h1 : i < n) : ∃ ad A0 c0, A = some ad ∧ w.cell? (ad.add i.toNat) = some (.slice A0 (rd_L2 xs i).length c0) ∧ (rd_L2 xs i).length ≤ c0 ∧ Kd.string.C w A0 (rd_L2 xs i).length (rd_L2 xs i) := by
  obtain ⟨ad, c, e, _, hK, hc0⟩ := Kd.C_get h ([] : List ByteArray) i h0 h1
  have hc : ∀ j u, c[j]? = some u → w.cell? (ad.add (i.toNat * 1 + j)) = some u := hc0
  obtain ⟨A0, c0, rfl, l0, g0⟩ := hK
  exact ⟨ad, A0, c0, e, by have hq := hc 0 _ rfl; rwa [Nat.mul_one, Nat.add_zero] at hq, l0, g0⟩

/-! #### struct type 40, nested in itself -/
structure S40 where
  f0 : Int
  f1 : ByteArray
  f2 : ByteArray
  f3 : Int
  f4 : Int
  f5 : Bool
  f6 : (List S40)
def z40 : S40 := ⟨(0 : Int), (⟨#[]⟩ : ByteArray), (⟨#[]⟩ : ByteArray), (0 : Int), (0 : Int), false, ([] : List S40)⟩
def F40 (d : Kd S40) : Kd S40 := Kd.iso (Kd.pair (Kd.int .i64) (Kd.pair Kd.string (Kd.pair Kd.string (Kd.pair (Kd.int .i64) (Kd.pair (Kd.int .i64) (Kd.pair Kd.bool (Kd.slice 40 d))))))) (fun x : S40 => (x.f0, x.f1, x.f2, x.f3, x.f4, x.f5, x.f6))
theorem mono40 : Kd.Mono F40 := Kd.mono_iso _ (Kd.mono_pair (Kd.mono_const _) (Kd.mono_pair (Kd.mono_const _) (Kd.mono_pair (Kd.mono_const _) (Kd.mono_pair (Kd.mono_const _) (Kd.mono_pair (Kd.mono_const _) (Kd.mono_pair (Kd.mono_const _) (Kd.mono_slice 40 Kd.mono_id)))))))
theorem sub40 : Kd.Sub F40 [40] := Kd.sub_iso _ (Kd.sub_pair (Kd.sub_const _ (by decide)) (Kd.sub_pair (Kd.sub_const _ (by decide)) (Kd.sub_pair (Kd.sub_const _ (by decide)) (Kd.sub_pair (Kd.sub_const _ (by decide)) (Kd.sub_pair (Kd.sub_const _ (by decide)) (Kd.sub_pair (Kd.sub_const _ (by decide)) (Kd.sub_slice 40 (by decide) Kd.sub_id)))))))
theorem sz40 : ∀ n, (Kd.upto F40 7 [40] n).sz = 7 := Kd.upto_sz (fun _ => rfl)
def k40 : Kd S40 := Kd.fix F40 7 [40] sz40 (Kd.upto_E sub40)
theorem k40_open {w : World} {x : S40} {cs : List Value} (h : k40.K w x cs) : ∃ A6 c6, cs = [.int .i64 x.f0, .string x.f1, .string x.f2, .int .i64 x.f3, .int .i64 x.f4, .bool x.f5, .slice A6 x.f6.length c6] ∧ x.f6.length ≤ c6 ∧ k40.C w A6 x.f6.length x.f6 := by
  obtain ⟨n, h⟩ := h
  cases n with
  | zero => exact h.elim
  | succ n =>
    obtain ⟨_, _, rfl, rfl, ⟨_, _, rfl, rfl, ⟨_, _, rfl, rfl, ⟨_, _, rfl, rfl, ⟨_, _, rfl, rfl, ⟨_, _, rfl, rfl, ⟨A6, c6, rfl, l6, g6⟩⟩⟩⟩⟩⟩⟩ := h
    exact ⟨A6, c6, rfl, l6, Kd.fix_C g6⟩
theorem k40_mkM (w : World) (base : Nat) (ok : Nat → Prop) (x : S40) {v6 : Value} (g6 : k40.R 40 w base ok v6 x.f6) : k40.M w base ok x [.int .i64 x.f0, .string x.f1, .string x.f2, .int .i64 x.f3, .int .i64 x.f4, .bool x.f5, v6] := by
  obtain ⟨n6, q6⟩ := Kd.fix_R_back mono40 g6
  have r6 := Kd.upto_R_le mono40 sz40 (show n6 ≤ n6 by omega) q6
  exact ⟨n6 + 1, ⟨[.int .i64 x.f0], [.string x.f1, .string x.f2, .int .i64 x.f3, .int .i64 x.f4, .bool x.f5, v6], rfl, rfl, ⟨[.string x.f1], [.string x.f2, .int .i64 x.f3, .int .i64 x.f4, .bool x.f5, v6], rfl, rfl, ⟨[.string x.f2], [.int .i64 x.f3, .int .i64 x.f4, .bool x.f5, v6], rfl, rfl, ⟨[.int .i64 x.f3], [.int .i64 x.f4, .bool x.f5, v6], rfl, rfl, ⟨[.int .i64 x.f4], [.bool x.f5, v6], rfl, rfl, ⟨[.bool x.f5], [v6], rfl, rfl, ⟨v6, rfl, r6⟩⟩⟩⟩⟩⟩⟩⟩
def rd_T40 (xs : List S40) (i : Int) : S40 := xs.getD i.toNat z40
theorem at_T40 {w : World} {A : Option Addr} {n : Nat} {xs : List S40} (h : Kd.C k40 w A n xs) (i : Int) (h0 : 0 ≤ i) (h1 : i < n) : ∃ ad A6 c6, A = some ad ∧ w.cell? (ad.add (i.toNat * 7)) = some (.int .i64 (rd_T40 xs i).f0) ∧ w.cell? ⟨(ad.add (i.toNat * 7)).block, (ad.add (i.toNat * 7)).off + 1, none⟩ = some (.string (rd_T40 xs i).f1) ∧ w.cell? ⟨(ad.add (i.toNat * 7)).block, (ad.add (i.toNat * 7)).off + 2, none⟩ = some (.string (rd_T40 xs i).f2) ∧ w.cell? ⟨(ad.add (i.toNat * 7)).block, (ad.add (i.toNat * 7)).off + 3, none⟩ = some (.int .i64 (rd_T40 xs i).f3) ∧ w.cell? ⟨(ad.add (i.toNat * 7)).block, (ad.add (i.toNat * 7)).off + 4, none⟩ = some (.int .i64 (rd_T40 xs i).f4) ∧ w.cell? ⟨(ad.add (i.toNat * 7)).block, (ad.add (i.toNat * 7)).off + 5, none⟩ = some (.bool (rd_T40 xs i).f5) ∧ w.cell? ⟨(ad.add (i.toNat * 7)).block, (ad.add (i.toNat * 7)).off + 6, none⟩ = some (.slice A6 (rd_T40 xs i).f6.length c6) ∧ (rd_T40 xs i).f6.length ≤ c6 ∧ k40.C w A6 (rd_T40 xs i).f6.length (rd_T40 xs i).f6 := by
  obtain ⟨ad, c, e, _, hK, hc0⟩ := Kd.C_get h z40 i h0 h1
  have hc : ∀ j u, c[j]? = some u → w.cell? (ad.add (i.toNat * 7 + j)) = some u := hc0
  obtain ⟨A6, c6, rfl, l6, g6⟩ := k40_open hK
  exact ⟨ad, A6, c6, e, hc 0 _ rfl, by rw [← add_field _ _ 1 (by omega)]; exact hc 1 _ rfl, by rw [← add_field _ _ 2 (by omega)]; exact hc 2 _ rfl, by rw [← add_field _ _ 3 (by omega)]; exact hc 3 _ rfl, by rw [← add_field _ _ 4 (by omega)]; exact hc 4 _ rfl, by rw [← add_field _ _ 5 (by omega)]; exact hc 5 _ rfl, by rw [← add_field _ _ 6 (by omega)]; exact hc 6 _ rfl, l6, g6⟩

end Go.Proofs.YthbadcdiagcfkaaDoor.PA

set_option linter.unusedVariables false
namespace Go.Proofs
open Go.Shelf
def Tryd.lays156_ren : Go.Shelf.Ren := ⟨fun | 156 => 36 | 165 => 52 | 166 => 53 | 169 => 54 | 240 => 70 | 241 => 71 | 276 => 82 | 277 => 83 | n => n, fun | 0 => 0 | 3 => 3 | 4 => 4 | 5 => 5 | 9 => 9 | 20 => 20 | 31 => 27 | 37 => 53 | 70 => 63 | 72 => 65 | 75 => 68 | 76 => 69 | 80 => 71 | 127 => 83 | 164 => 88 | n => n, fun | 1 => 0 | 3 => 1 | 4 => 2 | n => n⟩
theorem Tryd.lays156 : Go.Proofs.Lays.n156 Tryd.prog Tryd.lays156_ren := {
  mixed := by kernel_rfl,
  f156 := Tryd.func36.trans (congrArg some (by kernel_rfl)),
  f165 := Tryd.func52.trans (congrArg some (by kernel_rfl)),
  f166 := Tryd.func53.trans (congrArg some (by kernel_rfl)),
  f169 := Tryd.func54.trans (congrArg some (by kernel_rfl)),
  f240 := Tryd.func70.trans (congrArg some (by kernel_rfl)),
  f241 := Tryd.func71.trans (congrArg some (by kernel_rfl)),
  f276 := Tryd.func82.trans (congrArg some (by kernel_rfl)),
  f277 := Tryd.func83.trans (congrArg some (by kernel_rfl)),
  t0 := Tryd.underlying0,
  a0 := Tryd.isAgg0,
  z0 := Tryd.sizeOf0,
  v0 := Tryd.zeroValue0,
  t3 := Tryd.underlying3,
  a3 := Tryd.isAgg3,
  z3 := Tryd.sizeOf3,
  v3 := Tryd.zeroValue3,
  t4 := Tryd.underlying4,
  a4 := Tryd.isAgg4,
  z4 := Tryd.sizeOf4,
  v4 := Tryd.zeroValue4,
  t9 := Tryd.underlying9,
  a9 := Tryd.isAgg9,
  z9 := Tryd.sizeOf9,
  v9 := Tryd.zeroValue9,
  t20 := Tryd.underlying20,
  a20 := Tryd.isAgg20,
  z20 := Tryd.sizeOf20,
  v20 := Tryd.zeroValue20,
  t31 := Tryd.underlying27,
  a31 := Tryd.isAgg27,
  z31 := Tryd.sizeOf27,
  v31 := Tryd.zeroValue27,
  t37 := Tryd.underlying53,
  a37 := Tryd.isAgg53,
  z37 := Tryd.sizeOf53,
  v37 := Tryd.zeroValue53,
  t70 := Tryd.underlying63,
  a70 := Tryd.isAgg63,
  z70 := Tryd.sizeOf63,
  v70 := Tryd.zeroValue63,
  t72 := Tryd.underlying65,
  a72 := Tryd.isAgg65,
  z72 := Tryd.sizeOf65,
  v72 := Tryd.zeroValue65,
  t75 := Tryd.underlying68,
  a75 := Tryd.isAgg68,
  z75 := Tryd.sizeOf68,
  v75 := Tryd.zeroValue68,
  t76 := Tryd.underlying69,
  a76 := Tryd.isAgg69,
  z76 := Tryd.sizeOf69,
  v76 := Tryd.zeroValue69,
  t127 := Tryd.underlying83,
  a127 := Tryd.isAgg83,
  z127 := Tryd.sizeOf83,
  v127 := Tryd.zeroValue83,
  t164 := Tryd.underlying88,
  a164 := Tryd.isAgg88,
  z164 := Tryd.sizeOf88,
  v164 := Tryd.zeroValue88 }
theorem Tryd.Builder_Extra_156 : Builder.Extra Tryd.prog Tryd.lays156_ren := {
  sizeBuilder := by kernel_rfl,
  liesBuilder := by kernel_rfl,
  t5 := Tryd.underlying5,
  a5 := Tryd.isAgg5,
  z5 := Tryd.sizeOf5,
  v5 := Tryd.zeroValue5,
  infoByte := by kernel_rfl,
  cellsByte := by kernel_rfl,
  sizeByte := by kernel_rfl,
  neB5 := by decide }
open Go.RowKit in
theorem Tryd.strings_Join_none (a : Option Addr) (c : Nat) (sep : ByteArray) (w : World) :
    Calls Tryd.prog 36 #[.slice a 0 c, .string sep] w fun e w' => e = .returned (.string ⟨#[]⟩) ∧ w' = w := Any.strings_Join_none Tryd.lays156 Tryd.Builder_Extra_156 a c sep w
open Go.RowKit in
theorem Tryd.strings_Join (bk o c : Nat) (xs : List ByteArray) (sep : ByteArray) (w : World) (hcells : ∀ (j : Nat) x, xs[j]? = some x → w.cell? ⟨bk, o + j, none⟩ = some (.string x)) (hbk : bk < w.heap.size) (hN : xs.length ≤ 140737488355328) (hcap : xs.length ≤ c) (hlen : (Lib.join (xs.map (·.data.toList)) sep.data.toList).length ≤ 140737488355328) :
    Calls Tryd.prog 36 #[.slice (some ⟨bk, o, none⟩) xs.length c, .string sep] w fun e w' => e = .returned (.string ⟨(Lib.join (xs.map (·.data.toList)) sep.data.toList).toArray⟩) ∧ Below w.heap.size w w' := Any.strings_Join Tryd.lays156 Tryd.Builder_Extra_156 bk o c xs sep w hcells hbk hN hcap hlen
def Tryd.lays160_ren : Go.Shelf.Ren := ⟨fun | 119 => 89 | 120 => 87 | 137 => 88 | 151 => 77 | 152 => 86 | 160 => 43 | 197 => 67 | 217 => 72 | 224 => 74 | 225 => 73 | 227 => 60 | 228 => 76 | 231 => 58 | 232 => 59 | 233 => 61 | 234 => 62 | 235 => 63 | 236 => 64 | 260 => 81 | 266 => 84 | 271 => 78 | n => n, fun | 0 => 0 | 3 => 3 | 4 => 4 | 5 => 5 | 9 => 9 | 21 => 21 | 46 => 86 | 105 => 79 | 116 => 74 | 117 => 75 | 119 => 95 | 124 => 78 | 138 => 97 | 139 => 98 | n => n, fun | 1 => 0 | 3 => 1 | 4 => 2 | n => n⟩
theorem Tryd.lays160 : Go.Proofs.Lays.n160 Tryd.prog Tryd.lays160_ren := {
  mixed := by kernel_rfl,
  f119 := Tryd.func89.trans (congrArg some (by kernel_rfl)),
  f120 := Tryd.func87.trans (congrArg some (by kernel_rfl)),
  f137 := Tryd.func88.trans (congrArg some (by kernel_rfl)),
  f151 := Tryd.func77.trans (congrArg some (by kernel_rfl)),
  f152 := Tryd.func86.trans (congrArg some (by kernel_rfl)),
  f160 := Tryd.func43.trans (congrArg some (by kernel_rfl)),
  f197 := Tryd.func67.trans (congrArg some (by kernel_rfl)),
  f217 := Tryd.func72.trans (congrArg some (by kernel_rfl)),
  f224 := Tryd.func74.trans (congrArg some (by kernel_rfl)),
  f225 := Tryd.func73.trans (congrArg some (by kernel_rfl)),
  f227 := Tryd.func60.trans (congrArg some (by kernel_rfl)),
  f228 := Tryd.func76.trans (congrArg some (by kernel_rfl)),
  f231 := Tryd.func58.trans (congrArg some (by kernel_rfl)),
  f232 := Tryd.func59.trans (congrArg some (by kernel_rfl)),
  f233 := Tryd.func61.trans (congrArg some (by kernel_rfl)),
  f234 := Tryd.func62.trans (congrArg some (by kernel_rfl)),
  f235 := Tryd.func63.trans (congrArg some (by kernel_rfl)),
  f236 := Tryd.func64.trans (congrArg some (by kernel_rfl)),
  f260 := Tryd.func81.trans (congrArg some (by kernel_rfl)),
  f266 := Tryd.func84.trans (congrArg some (by kernel_rfl)),
  f271 := Tryd.func78.trans (congrArg some (by kernel_rfl)),
  t0 := Tryd.underlying0,
  a0 := Tryd.isAgg0,
  z0 := Tryd.sizeOf0,
  v0 := Tryd.zeroValue0,
  t3 := Tryd.underlying3,
  a3 := Tryd.isAgg3,
  z3 := Tryd.sizeOf3,
  v3 := Tryd.zeroValue3,
  t4 := Tryd.underlying4,
  a4 := Tryd.isAgg4,
  z4 := Tryd.sizeOf4,
  v4 := Tryd.zeroValue4,
  t5 := Tryd.underlying5,
  a5 := Tryd.isAgg5,
  z5 := Tryd.sizeOf5,
  v5 := Tryd.zeroValue5,
  t9 := Tryd.underlying9,
  a9 := Tryd.isAgg9,
  z9 := Tryd.sizeOf9,
  v9 := Tryd.zeroValue9,
  t21 := Tryd.underlying21,
  a21 := Tryd.isAgg21,
  z21 := Tryd.sizeOf21,
  v21 := Tryd.zeroValue21,
  t46 := Tryd.underlying86,
  a46 := Tryd.isAgg86,
  z46 := Tryd.sizeOf86,
  v46 := Tryd.zeroValue86,
  t105 := Tryd.underlying79,
  a105 := Tryd.isAgg79,
  z105 := Tryd.sizeOf79,
  v105 := Tryd.zeroValue79,
  t116 := Tryd.underlying74,
  a116 := Tryd.isAgg74,
  z116 := Tryd.sizeOf74,
  t117 := Tryd.underlying75,
  a117 := Tryd.isAgg75,
  z117 := Tryd.sizeOf75,
  v117 := Tryd.zeroValue75,
  t119 := Tryd.underlying95,
  a119 := Tryd.isAgg95,
  z119 := Tryd.sizeOf95,
  t124 := Tryd.underlying78,
  a124 := Tryd.isAgg78,
  z124 := Tryd.sizeOf78,
  v124 := Tryd.zeroValue78,
  t138 := Tryd.underlying97,
  a138 := Tryd.isAgg97,
  z138 := Tryd.sizeOf97,
  v138 := Tryd.zeroValue97,
  t139 := Tryd.underlying98,
  a139 := Tryd.isAgg98,
  z139 := Tryd.sizeOf98,
  v139 := Tryd.zeroValue98,
  g3 := by kernel_rfl,
  g4 := by kernel_rfl }
def Tryd.lays103_ren : Go.Shelf.Ren := ⟨fun | 103 => 41 | 206 => 65 | 210 => 56 | n => n, fun | 3 => 3 | 4 => 4 | 9 => 9 | 24 => 59 | n => n, fun | 1 => 0 | 3 => 1 | 4 => 2 | n => n⟩
theorem Tryd.lays103 : Go.Proofs.Lays.n103 Tryd.prog Tryd.lays103_ren := {
  mixed := by kernel_rfl,
  f103 := Tryd.func41.trans (congrArg some (by kernel_rfl)),
  f206 := Tryd.func65.trans (congrArg some (by kernel_rfl)),
  f210 := Tryd.func56.trans (congrArg some (by kernel_rfl)),
  t3 := Tryd.underlying3,
  a3 := Tryd.isAgg3,
  z3 := Tryd.sizeOf3,
  v3 := Tryd.zeroValue3,
  t4 := Tryd.underlying4,
  a4 := Tryd.isAgg4,
  z4 := Tryd.sizeOf4,
  v4 := Tryd.zeroValue4,
  t9 := Tryd.underlying9,
  a9 := Tryd.isAgg9,
  z9 := Tryd.sizeOf9,
  v9 := Tryd.zeroValue9,
  t24 := Tryd.underlying59,
  a24 := Tryd.isAgg59,
  z24 := Tryd.sizeOf59,
  v24 := Tryd.zeroValue59 }
open Go.RowKit in
theorem Tryd.strings_CutPrefix (s p : ByteArray) (w : World) :
    Calls Tryd.prog 41 #[.string s, .string p] w fun e w' => e = .returned (.tuple #[.string ⟨(Lib.trimPrefix s.data.toList p.data.toList).toArray⟩, .bool (Lib.hasPrefix s.data.toList p.data.toList)]) ∧ w' = w := Any.strings_CutPrefix Tryd.lays103 s p w
def Tryd.lays104_ren : Go.Shelf.Ren := ⟨fun | 104 => 42 | 207 => 45 | 211 => 57 | n => n, fun | 3 => 3 | 4 => 4 | 9 => 9 | 24 => 59 | n => n, fun | 1 => 0 | 3 => 1 | 4 => 2 | n => n⟩
theorem Tryd.lays104 : Go.Proofs.Lays.n104 Tryd.prog Tryd.lays104_ren := {
  mixed := by kernel_rfl,
  f104 := Tryd.func42.trans (congrArg some (by kernel_rfl)),
  f207 := Tryd.func45.trans (congrArg some (by kernel_rfl)),
  f211 := Tryd.func57.trans (congrArg some (by kernel_rfl)),
  t3 := Tryd.underlying3,
  a3 := Tryd.isAgg3,
  z3 := Tryd.sizeOf3,
  v3 := Tryd.zeroValue3,
  t4 := Tryd.underlying4,
  a4 := Tryd.isAgg4,
  z4 := Tryd.sizeOf4,
  v4 := Tryd.zeroValue4,
  t9 := Tryd.underlying9,
  a9 := Tryd.isAgg9,
  z9 := Tryd.sizeOf9,
  v9 := Tryd.zeroValue9,
  t24 := Tryd.underlying59,
  a24 := Tryd.isAgg59,
  z24 := Tryd.sizeOf59,
  v24 := Tryd.zeroValue59 }
open Go.RowKit in
theorem Tryd.strings_CutSuffix (s p : ByteArray) (w : World) (hs : s.size ≤ 9223372036854775807) :
    Calls Tryd.prog 42 #[.string s, .string p] w fun e w' => e = .returned (.tuple #[.string ⟨(Lib.trimSuffix s.data.toList p.data.toList).toArray⟩, .bool (Lib.hasSuffix s.data.toList p.data.toList)]) ∧ w' = w := Any.strings_CutSuffix Tryd.lays104 s p w hs
def Tryd.lays144_ren : Go.Shelf.Ren := ⟨fun | 143 => 40 | 144 => 22 | 217 => 72 | 219 => 55 | 224 => 74 | 225 => 73 | 266 => 84 | 267 => 75 | 314 => 85 | n => n, fun | 3 => 3 | 4 => 4 | 5 => 5 | 9 => 9 | 46 => 86 | 51 => 91 | 146 => 92 | n => n, fun | 1 => 0 | 3 => 1 | 4 => 2 | n => n⟩
theorem Tryd.lays144 : Go.Proofs.Lays.n144 Tryd.prog Tryd.lays144_ren := {
  mixed := by kernel_rfl,
  f143 := Tryd.func40.trans (congrArg some (by kernel_rfl)),
  f144 := Tryd.func22.trans (congrArg some (by kernel_rfl)),
  f217 := Tryd.func72.trans (congrArg some (by kernel_rfl)),
  f219 := Tryd.func55.trans (congrArg some (by kernel_rfl)),
  f224 := Tryd.func74.trans (congrArg some (by kernel_rfl)),
  f225 := Tryd.func73.trans (congrArg some (by kernel_rfl)),
  f266 := Tryd.func84.trans (congrArg some (by kernel_rfl)),
  f267 := Tryd.func75.trans (congrArg some (by kernel_rfl)),
  f314 := Tryd.func85.trans (congrArg some (by kernel_rfl)),
  t3 := Tryd.underlying3,
  a3 := Tryd.isAgg3,
  z3 := Tryd.sizeOf3,
  v3 := Tryd.zeroValue3,
  t4 := Tryd.underlying4,
  a4 := Tryd.isAgg4,
  z4 := Tryd.sizeOf4,
  v4 := Tryd.zeroValue4,
  t5 := Tryd.underlying5,
  a5 := Tryd.isAgg5,
  z5 := Tryd.sizeOf5,
  v5 := Tryd.zeroValue5,
  t9 := Tryd.underlying9,
  a9 := Tryd.isAgg9,
  z9 := Tryd.sizeOf9,
  v9 := Tryd.zeroValue9,
  t46 := Tryd.underlying86,
  a46 := Tryd.isAgg86,
  z46 := Tryd.sizeOf86,
  v46 := Tryd.zeroValue86,
  t51 := Tryd.underlying91,
  a51 := Tryd.isAgg91,
  z51 := Tryd.sizeOf91,
  v51 := Tryd.zeroValue91,
  t146 := Tryd.underlying92,
  a146 := Tryd.isAgg92,
  z146 := Tryd.sizeOf92,
  v146 := Tryd.zeroValue92,
  g1 := by kernel_rfl }
open Go.RowKit Go.Lib in
theorem Tryd.strings_Contains_one (s : ByteArray) (c : UInt8) (w : World) :
    Calls Tryd.prog 22 #[.string s, .string ⟨#[c]⟩] w fun e w' => e = .returned (.bool (decide (0 ≤ Lib.indexByte s.data.toList c))) ∧ w' = w := Any.strings_Contains_one Tryd.lays144 s c w
open Go.RowKit Go.Lib in
theorem Tryd.strings_Contains (s sub : ByteArray) (m : Int) (w : World) (hs : s.size < 4294967281) (hm : w.cell? ⟨0, 0, none⟩ = some (.int .i64 m)) :
    Calls Tryd.prog 22 #[.string s, .string sub] w fun e w' => e = .returned (.bool (Lib.contains s.data.toList sub.data.toList)) ∧ w' = w := Any.strings_Contains Tryd.lays144 s sub m w hs hm
def Tryd.lays100_ren : Go.Shelf.Ren := ⟨fun | 100 => 28 | 207 => 45 | n => n, fun | 3 => 3 | 4 => 4 | 9 => 9 | n => n, fun | 1 => 0 | 3 => 1 | 4 => 2 | n => n⟩
theorem Tryd.lays100 : Go.Proofs.Lays.n100 Tryd.prog Tryd.lays100_ren := {
  mixed := by kernel_rfl,
  f100 := Tryd.func28.trans (congrArg some (by kernel_rfl)),
  f207 := Tryd.func45.trans (congrArg some (by kernel_rfl)),
  t3 := Tryd.underlying3,
  a3 := Tryd.isAgg3,
  z3 := Tryd.sizeOf3,
  v3 := Tryd.zeroValue3,
  t4 := Tryd.underlying4,
  a4 := Tryd.isAgg4,
  z4 := Tryd.sizeOf4,
  v4 := Tryd.zeroValue4,
  t9 := Tryd.underlying9,
  a9 := Tryd.isAgg9,
  z9 := Tryd.sizeOf9,
  v9 := Tryd.zeroValue9 }
open Go.RowKit Go.Lib in
theorem Tryd.strings_HasSuffix (s p : ByteArray) (w : World) (hs : s.size ≤ 9223372036854775807) :
    Calls Tryd.prog 28 #[.string s, .string p] w fun e w' => e = .returned (.bool (Lib.hasSuffix s.data.toList p.data.toList)) ∧ w' = w := Any.strings_HasSuffix Tryd.lays100 s p w hs
def Tryd.lays101_ren : Go.Shelf.Ren := ⟨fun | 101 => 26 | 206 => 65 | 208 => 44 | n => n, fun | 3 => 3 | 4 => 4 | 9 => 9 | n => n, fun | 1 => 0 | 3 => 1 | 4 => 2 | n => n⟩
theorem Tryd.lays101 : Go.Proofs.Lays.n101 Tryd.prog Tryd.lays101_ren := {
  mixed := by kernel_rfl,
  f101 := Tryd.func26.trans (congrArg some (by kernel_rfl)),
  f206 := Tryd.func65.trans (congrArg some (by kernel_rfl)),
  f208 := Tryd.func44.trans (congrArg some (by kernel_rfl)),
  t3 := Tryd.underlying3,
  a3 := Tryd.isAgg3,
  z3 := Tryd.sizeOf3,
  v3 := Tryd.zeroValue3,
  t4 := Tryd.underlying4,
  a4 := Tryd.isAgg4,
  z4 := Tryd.sizeOf4,
  v4 := Tryd.zeroValue4,
  t9 := Tryd.underlying9,
  a9 := Tryd.isAgg9,
  z9 := Tryd.sizeOf9,
  v9 := Tryd.zeroValue9 }
open Go.RowKit Go.Lib in
theorem Tryd.strings_TrimPrefix (s p : ByteArray) (w : World) :
    Calls Tryd.prog 26 #[.string s, .string p] w fun e w' => e = .returned (.string ⟨(Lib.trimPrefix s.data.toList p.data.toList).toArray⟩) ∧ w' = w := Any.strings_TrimPrefix Tryd.lays101 s p w
def Tryd.lays102_ren : Go.Shelf.Ren := ⟨fun | 102 => 29 | 207 => 45 | 209 => 46 | n => n, fun | 3 => 3 | 4 => 4 | 9 => 9 | n => n, fun | 1 => 0 | 3 => 1 | 4 => 2 | n => n⟩
theorem Tryd.lays102 : Go.Proofs.Lays.n102 Tryd.prog Tryd.lays102_ren := {
  mixed := by kernel_rfl,
  f102 := Tryd.func29.trans (congrArg some (by kernel_rfl)),
  f207 := Tryd.func45.trans (congrArg some (by kernel_rfl)),
  f209 := Tryd.func46.trans (congrArg some (by kernel_rfl)),
  t3 := Tryd.underlying3,
  a3 := Tryd.isAgg3,
  z3 := Tryd.sizeOf3,
  v3 := Tryd.zeroValue3,
  t4 := Tryd.underlying4,
  a4 := Tryd.isAgg4,
  z4 := Tryd.sizeOf4,
  v4 := Tryd.zeroValue4,
  t9 := Tryd.underlying9,
  a9 := Tryd.isAgg9,
  z9 := Tryd.sizeOf9,
  v9 := Tryd.zeroValue9 }
open Go.RowKit Go.Lib in
theorem Tryd.strings_TrimSuffix (s p : ByteArray) (w : World) (hs : s.size ≤ 9223372036854775807) :
    Calls Tryd.prog 29 #[.string s, .string p] w fun e w' => e = .returned (.string ⟨(Lib.trimSuffix s.data.toList p.data.toList).toArray⟩) ∧ w' = w := Any.strings_TrimSuffix Tryd.lays102 s p w hs
def Tryd.lays146_ren : Go.Shelf.Ren := ⟨fun | 138 => 66 | 143 => 40 | 146 => 33 | 195 => 79 | 197 => 67 | 217 => 72 | 218 => 80 | 219 => 55 | 221 => 51 | 224 => 74 | 225 => 73 | 260 => 81 | 266 => 84 | 267 => 75 | 268 => 69 | 314 => 85 | n => n, fun | 0 => 0 | 3 => 3 | 4 => 4 | 5 => 5 | 9 => 9 | 21 => 21 | 31 => 27 | 46 => 86 | 51 => 91 | 105 => 79 | 119 => 95 | 138 => 97 | 139 => 98 | 146 => 92 | n => n, fun | 1 => 0 | 3 => 1 | 4 => 2 | n => n⟩
theorem Tryd.lays146 : Go.Proofs.Lays.n146 Tryd.prog Tryd.lays146_ren := {
  mixed := by kernel_rfl,
  f138 := Tryd.func66.trans (congrArg some (by kernel_rfl)),
  f143 := Tryd.func40.trans (congrArg some (by kernel_rfl)),
  f146 := Tryd.func33.trans (congrArg some (by kernel_rfl)),
  f195 := Tryd.func79.trans (congrArg some (by kernel_rfl)),
  f197 := Tryd.func67.trans (congrArg some (by kernel_rfl)),
  f217 := Tryd.func72.trans (congrArg some (by kernel_rfl)),
  f218 := Tryd.func80.trans (congrArg some (by kernel_rfl)),
  f219 := Tryd.func55.trans (congrArg some (by kernel_rfl)),
  f221 := Tryd.func51.trans (congrArg some (by kernel_rfl)),
  f224 := Tryd.func74.trans (congrArg some (by kernel_rfl)),
  f225 := Tryd.func73.trans (congrArg some (by kernel_rfl)),
  f260 := Tryd.func81.trans (congrArg some (by kernel_rfl)),
  f266 := Tryd.func84.trans (congrArg some (by kernel_rfl)),
  f267 := Tryd.func75.trans (congrArg some (by kernel_rfl)),
  f268 := Tryd.func69.trans (congrArg some (by kernel_rfl)),
  f314 := Tryd.func85.trans (congrArg some (by kernel_rfl)),
  t0 := Tryd.underlying0,
  a0 := Tryd.isAgg0,
  z0 := Tryd.sizeOf0,
  v0 := Tryd.zeroValue0,
  t3 := Tryd.underlying3,
  a3 := Tryd.isAgg3,
  z3 := Tryd.sizeOf3,
  v3 := Tryd.zeroValue3,
  t4 := Tryd.underlying4,
  a4 := Tryd.isAgg4,
  z4 := Tryd.sizeOf4,
  v4 := Tryd.zeroValue4,
  t5 := Tryd.underlying5,
  a5 := Tryd.isAgg5,
  z5 := Tryd.sizeOf5,
  v5 := Tryd.zeroValue5,
  t9 := Tryd.underlying9,
  a9 := Tryd.isAgg9,
  z9 := Tryd.sizeOf9,
  v9 := Tryd.zeroValue9,
  t21 := Tryd.underlying21,
  a21 := Tryd.isAgg21,
  z21 := Tryd.sizeOf21,
  v21 := Tryd.zeroValue21,
  t31 := Tryd.underlying27,
  a31 := Tryd.isAgg27,
  z31 := Tryd.sizeOf27,
  v31 := Tryd.zeroValue27,
  t46 := Tryd.underlying86,
  a46 := Tryd.isAgg86,
  z46 := Tryd.sizeOf86,
  v46 := Tryd.zeroValue86,
  t51 := Tryd.underlying91,
  a51 := Tryd.isAgg91,
  z51 := Tryd.sizeOf91,
  v51 := Tryd.zeroValue91,
  t105 := Tryd.underlying79,
  a105 := Tryd.isAgg79,
  z105 := Tryd.sizeOf79,
  v105 := Tryd.zeroValue79,
  t119 := Tryd.underlying95,
  a119 := Tryd.isAgg95,
  z119 := Tryd.sizeOf95,
  t138 := Tryd.underlying97,
  a138 := Tryd.isAgg97,
  z138 := Tryd.sizeOf97,
  v138 := Tryd.zeroValue97,
  t139 := Tryd.underlying98,
  a139 := Tryd.isAgg98,
  z139 := Tryd.sizeOf98,
  v139 := Tryd.zeroValue98,
  t146 := Tryd.underlying92,
  a146 := Tryd.isAgg92,
  z146 := Tryd.sizeOf92,
  v146 := Tryd.zeroValue92,
  g1 := by kernel_rfl,
  g3 := by kernel_rfl,
  g4 := by kernel_rfl }
open Go.RowKit Go.Lib in
theorem Tryd.strings_Split (s sep : ByteArray) (m : Int) (w : World) (hs : s.size < 4294967281) (hm : w.cell? ⟨0, 0, none⟩ = some (.int .i64 m)) (h1 : 1 ≤ sep.size) :
    Calls Tryd.prog 33 #[.string s, .string sep] w fun e w' =>
      e = .returned (.slice (some ⟨w.heap.size, 0, none⟩) (Lib.countB s sep + 1) (Lib.countB s sep + 1)) ∧ w' = w.alloc (.cells ((Lib.splitB sep 0 (Lib.countB s sep) s).map Value.string).toArray 9) := Any.strings_Split Tryd.lays146 (by kernel_rfl) s sep m w hs hm h1
def Tryd.lays155_ren : Go.Shelf.Ren := ⟨fun | 138 => 66 | 143 => 40 | 154 => 48 | 155 => 31 | 165 => 52 | 166 => 53 | 169 => 54 | 195 => 79 | 197 => 67 | 217 => 72 | 218 => 80 | 219 => 55 | 224 => 74 | 225 => 73 | 240 => 70 | 241 => 71 | 260 => 81 | 266 => 84 | 267 => 75 | 276 => 82 | 277 => 83 | 314 => 85 | n => n, fun | 0 => 0 | 3 => 3 | 4 => 4 | 5 => 5 | 9 => 9 | 20 => 20 | 21 => 21 | 37 => 53 | 46 => 86 | 51 => 91 | 70 => 63 | 72 => 65 | 75 => 68 | 76 => 69 | 80 => 71 | 105 => 79 | 119 => 95 | 127 => 83 | 138 => 97 | 139 => 98 | 146 => 92 | 164 => 88 | n => n, fun | 1 => 0 | 3 => 1 | 4 => 2 | n => n⟩
theorem Tryd.lays155 : Go.Proofs.Lays.n155 Tryd.prog Tryd.lays155_ren := {
  mixed := by kernel_rfl,
  f138 := Tryd.func66.trans (congrArg some (by kernel_rfl)),
  f143 := Tryd.func40.trans (congrArg some (by kernel_rfl)),
  f154 := Tryd.func48.trans (congrArg some (by kernel_rfl)),
  f155 := Tryd.func31.trans (congrArg some (by kernel_rfl)),
  f165 := Tryd.func52.trans (congrArg some (by kernel_rfl)),
  f166 := Tryd.func53.trans (congrArg some (by kernel_rfl)),
  f169 := Tryd.func54.trans (congrArg some (by kernel_rfl)),
  f195 := Tryd.func79.trans (congrArg some (by kernel_rfl)),
  f197 := Tryd.func67.trans (congrArg some (by kernel_rfl)),
  f217 := Tryd.func72.trans (congrArg some (by kernel_rfl)),
  f218 := Tryd.func80.trans (congrArg some (by kernel_rfl)),
  f219 := Tryd.func55.trans (congrArg some (by kernel_rfl)),
  f224 := Tryd.func74.trans (congrArg some (by kernel_rfl)),
  f225 := Tryd.func73.trans (congrArg some (by kernel_rfl)),
  f240 := Tryd.func70.trans (congrArg some (by kernel_rfl)),
  f241 := Tryd.func71.trans (congrArg some (by kernel_rfl)),
  f260 := Tryd.func81.trans (congrArg some (by kernel_rfl)),
  f266 := Tryd.func84.trans (congrArg some (by kernel_rfl)),
  f267 := Tryd.func75.trans (congrArg some (by kernel_rfl)),
  f276 := Tryd.func82.trans (congrArg some (by kernel_rfl)),
  f277 := Tryd.func83.trans (congrArg some (by kernel_rfl)),
  f314 := Tryd.func85.trans (congrArg some (by kernel_rfl)),
  t0 := Tryd.underlying0,
  a0 := Tryd.isAgg0,
  z0 := Tryd.sizeOf0,
  v0 := Tryd.zeroValue0,
  t3 := Tryd.underlying3,
  a3 := Tryd.isAgg3,
  z3 := Tryd.sizeOf3,
  v3 := Tryd.zeroValue3,
  t4 := Tryd.underlying4,
  a4 := Tryd.isAgg4,
  z4 := Tryd.sizeOf4,
  v4 := Tryd.zeroValue4,
  t5 := Tryd.underlying5,
  a5 := Tryd.isAgg5,
  z5 := Tryd.sizeOf5,
  v5 := Tryd.zeroValue5,
  t9 := Tryd.underlying9,
  a9 := Tryd.isAgg9,
  z9 := Tryd.sizeOf9,
  v9 := Tryd.zeroValue9,
  t20 := Tryd.underlying20,
  a20 := Tryd.isAgg20,
  z20 := Tryd.sizeOf20,
  v20 := Tryd.zeroValue20,
  t21 := Tryd.underlying21,
  a21 := Tryd.isAgg21,
  z21 := Tryd.sizeOf21,
  v21 := Tryd.zeroValue21,
  t37 := Tryd.underlying53,
  a37 := Tryd.isAgg53,
  z37 := Tryd.sizeOf53,
  v37 := Tryd.zeroValue53,
  t46 := Tryd.underlying86,
  a46 := Tryd.isAgg86,
  z46 := Tryd.sizeOf86,
  v46 := Tryd.zeroValue86,
  t51 := Tryd.underlying91,
  a51 := Tryd.isAgg91,
  z51 := Tryd.sizeOf91,
  v51 := Tryd.zeroValue91,
  t70 := Tryd.underlying63,
  a70 := Tryd.isAgg63,
  z70 := Tryd.sizeOf63,
  v70 := Tryd.zeroValue63,
  t72 := Tryd.underlying65,
  a72 := Tryd.isAgg65,
  z72 := Tryd.sizeOf65,
  v72 := Tryd.zeroValue65,
  t75 := Tryd.underlying68,
  a75 := Tryd.isAgg68,
  z75 := Tryd.sizeOf68,
  v75 := Tryd.zeroValue68,
  t76 := Tryd.underlying69,
  a76 := Tryd.isAgg69,
  z76 := Tryd.sizeOf69,
  v76 := Tryd.zeroValue69,
  t105 := Tryd.underlying79,
  a105 := Tryd.isAgg79,
  z105 := Tryd.sizeOf79,
  v105 := Tryd.zeroValue79,
  t119 := Tryd.underlying95,
  a119 := Tryd.isAgg95,
  z119 := Tryd.sizeOf95,
  t127 := Tryd.underlying83,
  a127 := Tryd.isAgg83,
  z127 := Tryd.sizeOf83,
  v127 := Tryd.zeroValue83,
  t138 := Tryd.underlying97,
  a138 := Tryd.isAgg97,
  z138 := Tryd.sizeOf97,
  v138 := Tryd.zeroValue97,
  t139 := Tryd.underlying98,
  a139 := Tryd.isAgg98,
  z139 := Tryd.sizeOf98,
  v139 := Tryd.zeroValue98,
  t146 := Tryd.underlying92,
  a146 := Tryd.isAgg92,
  z146 := Tryd.sizeOf92,
  v146 := Tryd.zeroValue92,
  t164 := Tryd.underlying88,
  a164 := Tryd.isAgg88,
  z164 := Tryd.sizeOf88,
  v164 := Tryd.zeroValue88,
  g1 := by kernel_rfl,
  g3 := by kernel_rfl,
  g4 := by kernel_rfl }
theorem Tryd.Builder_Extra_155 : Builder.Extra Tryd.prog Tryd.lays155_ren := {
  sizeBuilder := by kernel_rfl,
  liesBuilder := by kernel_rfl,
  t5 := Tryd.underlying5,
  a5 := Tryd.isAgg5,
  z5 := Tryd.sizeOf5,
  v5 := Tryd.zeroValue5,
  infoByte := by kernel_rfl,
  cellsByte := by kernel_rfl,
  sizeByte := by kernel_rfl,
  neB5 := by decide }
open Go.RowKit Go.Lib in
theorem Tryd.strings_ReplaceAll (s old new : ByteArray) (m : Int) (w : World) (hs : s.size < 4294967281) (hm : w.cell? ⟨0, 0, none⟩ = some (.int .i64 m)) (h1 : 1 ≤ old.size) (hlen : s.size + Lib.countB s old * new.size ≤ 140737488355328) :
    Calls Tryd.prog 31 #[.string s, .string old, .string new] w fun e w' =>
      e = .returned (.string ⟨(Lib.replaceAll s.data.toList old.data.toList new.data.toList).toArray⟩) ∧ Below w.heap.size w w' := Any.strings_ReplaceAll Tryd.lays155 Tryd.Builder_Extra_155 s old new m w hs hm h1 hlen
end Go.Proofs

namespace Go.Proofs.YthbadcdiagcfkaaDoor.PA
open Go.RowKit Go.Proofs.YthbadcdiagcfkaaDoorW.PrintWords

theorem retNe (l : List UInt8) : Ending.returned (Value.bool (!l.isEmpty)) = Ending.returned (Value.bool (l != ([] : List UInt8))) := by cases l <;> rfl
/-- internal/bytealg.MaxLen holds a whole number. -/
structure Laid (w : World) : Prop where
  ml : ∃ m : Int, w.cell? ⟨0, 0, none⟩ = some (.int .i64 m)
  size : 0 < w.heap.size
theorem Laid.go {w W : World} (h : Laid w) (hb : Below w.heap.size w W) : Laid W := by
  obtain ⟨m, hm⟩ := h.ml
  refine ⟨⟨m, ?_⟩, by have := h.size; have := hb.size; omega⟩
  rw [← hm]
  exact hb.cell (by have := h.size; show 0 < w.heap.size; omega)
end Go.Proofs.YthbadcdiagcfkaaDoor.PA

namespace Go.Proofs.YthbadcdiagcfkaaDoor.RowU8
open Go.ChangeShapes Go.WideShapes Go.ChangeAt Go.RowKit Go.Lib

theorem own : ownKnob Tryd.prog.godebug = none := by kernel_rfl
theorem laidOut : laidOutB Tryd.prog = true := by kernel_rfl
theorem laidOf {W : World} (h : W.ShapedOpen Tryd.prog) : PA.Laid W := by
  have hm : ∃ m : Int, W.cell? ⟨0, 0, none⟩ = some (.int .i64 m) :=
    cell_of_shapedOpen_int (t := 3) (zero := #[.int .i64 0]) h (of_decide_eq_true (by kernel_rfl)) (by kernel_rfl) rfl (by kernel_rfl) (by kernel_rfl) Tryd.underlying3
  obtain ⟨m, hm'⟩ := hm
  refine ⟨⟨m, hm'⟩, ?_⟩
  rcases Nat.lt_or_ge 0 W.heap.size with h' | h'
  · exact h'
  · simp [World.cell?, Array.getElem?_eq_none h'] at hm'
def accCells : Array Value := ((List.range 16).flatMap fun i => [Value.int .u8 (accLo i), Value.int .u8 (accHi i)]).toArray
def firstCells : Array Value := ((List.range 256).map fun c => Value.int .u8 (firstT c)).toArray
def layCells (a : Array Value) : Obj → Obj
  | .cells _ t frozen => .cells a t frozen
  | o => o
/-- A world for the witness: the settled one, the two tables holding what their initialisers lay. -/
noncomputable def laidWorld (os : Os) : World :=
  { World.holding Tryd.prog os ⟨#[], #[], []⟩ with heap := ((World.holding Tryd.prog os ⟨#[], #[], []⟩).heap.modify 2 (layCells accCells)).modify 1 (layCells firstCells) }
/-- A slice of texts that came in: what is read. -/
theorem strs_row {H : Type} {enc : TypeId × Value → H} {P : Program} {W : World} {base : Nat} {spare : Nat → Bool} {held : Bool} {t e : TypeId} {a : Option Addr} {len cap fuel : Nat} {x : DataW H × List MemPlace}
    (ht : P.underlying t = some (.slice e)) (he : P.underlying e = some .string) (hc : P.cellsOf e = 1) (h : DataW.trod enc P W base spare held fuel t [.slice a len cap] = some x) :
    ∃ l : List ByteArray, len = l.length ∧ l.length ≤ cap ∧ YthbadcdiagcfkaaDoorW.PrintWords.Kd.C YthbadcdiagcfkaaDoorW.PrintWords.Kd.string W a l.length l ∧ ∀ x ∈ l, x.size ≤ maxLen := by
  rcases open_strings ht he hc h with ⟨hcs, _⟩ | ⟨ad, l, c, ss, hcs, _, hl, hm, hz, _, hcell, hw⟩
  · simp at hcs
    obtain ⟨rfl, rfl, rfl⟩ := hcs
    exact ⟨[], rfl, by simp, ⟨rfl, by simp, fun h => absurd h (by simp)⟩, by simp⟩
  · simp at hcs
    obtain ⟨rfl, rfl, rfl⟩ := hcs
    have hl2 : len ≤ ss.length := by
      rw [hz]
      split
      · exact hl
      · exact Nat.le_refl _
    have hlen : (ss.take len).length = len := by rw [List.length_take]; omega
    refine ⟨ss.take len, hlen.symm, by rw [hlen]; exact hl, ⟨rfl, by rw [hlen]; unfold maxLen at hm; omega, fun _ => ⟨ad, rfl, fun j p hj => ?_⟩⟩, fun x hx => hw x (List.mem_of_mem_take hx)⟩
    rw [List.getElem?_take] at hj
    split at hj
    · rename_i hjl
      refine ⟨[.string p], rfl, rfl, fun i u hi => ?_⟩
      have h0 := hcell j (by omega)
      have e1 : ss.getD j ByteArray.empty = p := by rw [List.getD_eq_getElem?_getD, hj]; rfl
      rw [e1] at h0
      match i, hi with
      | 0, hi =>
        simp at hi
        subst hi
        simpa [YthbadcdiagcfkaaDoorW.PrintWords.Kd.string, YthbadcdiagcfkaaDoorW.PrintWords.Kd.scalar] using h0
    · cases hj
/-- A slice that came in is no longer than its weight allows. -/
theorem sized_any {H : Type} {enc : TypeId × Value → H} {P : Program} {W : World} {base : Nat} {spare : Nat → Bool} {held : Bool} {t e : TypeId} {a : Option Addr} {len cap : Nat} {d : DataW H} {ps : List MemPlace} {ts : List TypeId} {ds : List (DataW H)} {j : Nat}
    (hsz : (DataW.weightsEach P ts ds).all (· ≤ reachBytes) = true) (ht : ts[j]? = some t) (hd : ds[j]? = some d) (hu : P.underlying t = some (.slice e)) {B : Nat} (hB : P.bytesOf e = B)
    (h : DataW.Trod enc P W base spare held t (.slice a len cap) d ps) : len * B ≤ 140737488351232 := by
  obtain ⟨fuel, hf⟩ := h
  rcases DataW.trod_slice hu hf with h0 | ⟨ad, l, c, elems, rest, n, _, hcs, hx, hb, hl, hm, hlen, hel, hsp, hns⟩
  · have := h0.1
    simp [Value.cells] at this
    obtain ⟨rfl, rfl, rfl⟩ := this
    simp
  · simp [Value.cells] at hcs
    obtain ⟨rfl, rfl, rfl⟩ := hcs
    obtain ⟨rfl, _⟩ := Prod.mk.inj hx
    have z := sized_slice hsz ht hd hu
    rw [hB, List.length_map, List.length_map, hlen] at z
    exact Nat.le_trans (Nat.mul_le_mul_right _ (Nat.le_add_right _ _)) z
/-- What the row of a slice that came in says of whole numbers. -/
def IsRow (k : IntKind) (w : World) (a : Option Addr) (len cap : Nat) (zs : List Int) : Prop :=
  (a = none ∧ len = 0 ∧ cap = 0 ∧ zs = []) ∨
  ∃ x, a = some x ∧ len ≤ cap ∧ cap ≤ maxLen ∧ zs.length = cap ∧ (∀ i, i < zs.length → w.cell? (x.add i) = some (.int k (zs.getD i 0))) ∧ ∀ n ∈ zs, (Lit.int k n).wf = true
end Go.Proofs.YthbadcdiagcfkaaDoor.RowU8

namespace Go.Proofs.YthbadcdiagcfkaaDoor.RowU8
open Go.ChangeShapes Go.WideShapes Go.ChangeAt Go.RowKit Go.Lib
set_option linter.unusedVariables false
section
variable {H : Type} {enc : TypeId × Value → H} {W : World} {base : Nat} {spare : Nat → Bool} {held : Bool}
theorem cs_strs : Tryd.prog.cellsOf 27 = 1 := by kernel_rfl
theorem cs_text : Tryd.prog.cellsOf 9 = 1 := by kernel_rfl
theorem strs_any {fuel : Nat} {cs : List Value} {x : DataW H × List MemPlace} (h : DataW.trod enc Tryd.prog W base spare held fuel 27 cs = some x) :
    ∃ (A : Option Addr) (l : List ByteArray) (c : Nat), cs = [.slice A l.length c] ∧ l.length ≤ c ∧ YthbadcdiagcfkaaDoorW.PrintWords.Kd.C YthbadcdiagcfkaaDoorW.PrintWords.Kd.string W A l.length l := by
  have h' := h
  rcases DataW.trod_slice Tryd.underlying27 h with ⟨e, _⟩ | ⟨ad, len, cap, elems, rest, n, _, e, _⟩
  · subst e
    exact ⟨none, [], 0, rfl, Nat.le_refl _, ⟨rfl, by simp, fun h => absurd h (by simp)⟩⟩
  · subst e
    obtain ⟨l, rfl, hc, hk, _⟩ := strs_row Tryd.underlying27 Tryd.underlying9 cs_text h'
    exact ⟨_, l, cap, rfl, hc, hk⟩
set_option maxRecDepth 100000 in
theorem strss_row {fuel : Nat} {a : Option Addr} {len cap : Nat} {x : DataW H × List MemPlace} (h : DataW.trod enc Tryd.prog W base spare held fuel 31 [.slice a len cap] = some x) :
    ∃ l : List (List ByteArray), len = l.length ∧ l.length ≤ cap ∧ YthbadcdiagcfkaaDoorW.PrintWords.Kd.C (YthbadcdiagcfkaaDoorW.PrintWords.Kd.slice 9 YthbadcdiagcfkaaDoorW.PrintWords.Kd.string) W a l.length l := by
  rcases DataW.trod_slice Tryd.underlying31 h with ⟨e, _⟩ | ⟨ad, len', cap', elems, rest, n, rfl, e, rfl, hb, hl, hm, hlen, hel, _, _⟩
  · simp at e
    obtain ⟨rfl, rfl, rfl⟩ := e
    exact ⟨[], rfl, Nat.le_refl _, ⟨rfl, by simp, fun h => absurd h (by simp)⟩⟩
  · simp at e
    obtain ⟨rfl, rfl, rfl⟩ := e
    have each : ∀ i, i < len → ∃ (q : List ByteArray) (cs : List Value), (YthbadcdiagcfkaaDoorW.PrintWords.Kd.slice 9 YthbadcdiagcfkaaDoorW.PrintWords.Kd.string).K W q cs ∧ cs.length = 1 ∧ ∀ j u, cs[j]? = some u → W.cell? (ad.add (i * 1 + j)) = some u := by
      intro i hi
      have h1 := hel i hi
      have hi2 : i < elems.length := by omega
      rw [List.getElem?_eq_getElem hi2, cs_strs] at h1
      obtain ⟨cs', hc, h2⟩ := Option.bind_eq_some_iff.1 h1
      obtain ⟨A6, l, c6, rfl, hc6, hk6⟩ := strs_any h2
      obtain ⟨_, hlen', hcell⟩ := World.cells?_some hc
      refine ⟨l, _, ⟨A6, c6, rfl, hc6, hk6⟩, rfl, fun j u hj => ?_⟩
      have hj1 : j < 1 := by
        have := (List.getElem?_eq_some_iff.1 hj).1
        simpa using this
      have := hcell j hj1
      rw [Go.Deep.add_add] at this
      rw [this]
      exact hj
    obtain ⟨q, hq⟩ := Go.Deep.choose_lt each
    refine ⟨(List.range len).map q, by simp, by simpa using hl, ⟨rfl, by simp; unfold maxLen at hm; omega, fun _ => ⟨ad, rfl, fun j p hj => ?_⟩⟩⟩
    obtain ⟨hjl, hp⟩ := List.getElem?_eq_some_iff.1 hj
    have hjl2 : j < len := by simpa using hjl
    have hp2 : q j = p := by simpa using hp
    subst hp2
    obtain ⟨cs', hK, hl1, hc⟩ := hq j hjl2
    exact ⟨cs', hl1, hK, fun i u hi => hc i u hi⟩
end
end Go.Proofs.YthbadcdiagcfkaaDoor.RowU8

namespace Go.Proofs.YthbadcdiagcfkaaDoor.PA
open Go.RowKit Go.Proofs.YthbadcdiagcfkaaDoorW.PrintWords

def strings_CutPrefix.f (a0 : ByteArray) (a1 : ByteArray) : Option (ByteArray × Bool) := some (⟨(Lib.trimPrefix a0.data.toList a1.data.toList).toArray⟩, Lib.hasPrefix a0.data.toList a1.data.toList)
theorem strings_CutPrefix.calls (a0 : ByteArray) (a1 : ByteArray) (r1 : ByteArray) (r2 : Bool) (w : World) (h : strings_CutPrefix.f a0 a1 = some (r1, r2)) :
    Calls Tryd.prog 41 #[.string a0, .string a1] w fun e w' => e = .returned (.tuple #[.string r1, .bool r2]) ∧ Drawn0 w w' := by
  unfold strings_CutPrefix.f at h
  have h2 := Option.some.inj h
  obtain ⟨rfl, rfl⟩ := Prod.mk.inj h2
  refine (Tryd.strings_CutPrefix a0 a1 w).mono ?_
  rintro e w' ⟨rfl, rfl⟩
  exact ⟨rfl, Drawn0.refl _⟩
def strings_CutSuffix.f (a0 : ByteArray) (a1 : ByteArray) : Option (ByteArray × Bool) := if a0.size ≤ 9223372036854775807 then some (⟨(Lib.trimSuffix a0.data.toList a1.data.toList).toArray⟩, Lib.hasSuffix a0.data.toList a1.data.toList) else none
theorem strings_CutSuffix.calls (a0 : ByteArray) (a1 : ByteArray) (r1 : ByteArray) (r2 : Bool) (w : World) (h : strings_CutSuffix.f a0 a1 = some (r1, r2)) :
    Calls Tryd.prog 42 #[.string a0, .string a1] w fun e w' => e = .returned (.tuple #[.string r1, .bool r2]) ∧ Drawn0 w w' := by
  unfold strings_CutSuffix.f at h
  split at h
  · rename_i hc
    have h2 := Option.some.inj h
    obtain ⟨rfl, rfl⟩ := Prod.mk.inj h2
    refine (Tryd.strings_CutSuffix a0 a1 w hc).mono ?_
    rintro e w' ⟨rfl, rfl⟩
    exact ⟨rfl, Drawn0.refl _⟩
  · cases h
theorem one_byte (a : ByteArray) (h : a.size = 1) : ∃ c, a = ⟨#[c]⟩ := by
  obtain ⟨⟨l⟩⟩ := a
  match l, h with
  | [c], _ => exact ⟨c, rfl⟩
def strings_Contains.f (a0 : ByteArray) (a1 : ByteArray) : Option Bool := if a1.size = 1 then some (decide (0 ≤ Lib.indexByte a0.data.toList (a1.data.toList.getD 0 0))) else none
theorem strings_Contains.calls (a0 : ByteArray) (a1 : ByteArray) (r : Bool) (w : World) (h : strings_Contains.f a0 a1 = some r) :
    Calls Tryd.prog 22 #[.string a0, .string a1] w fun e w' => e = .returned (.bool r) ∧ Drawn0 w w' := by
  unfold strings_Contains.f at h
  split at h
  · rename_i hc
    have h2 := Option.some.inj h
    subst h2
    obtain ⟨c, hc2⟩ : ∃ c, a1 = ⟨#[c]⟩ := one_byte a1 hc
    subst hc2
    refine (Tryd.strings_Contains_one a0 c w).mono ?_
    rintro e w' ⟨rfl, rfl⟩
    exact ⟨rfl, Drawn0.refl _⟩
  · cases h
def strings_Split.f (a0 a1 : ByteArray) : Option (List ByteArray) := if a0.size ≤ 4294967280 ∧ 1 ≤ a1.size then some (Lib.splitB a1 0 (Lib.countB a0 a1) a0) else none
theorem strings_Split.calls (a0 a1 : ByteArray) (r : List ByteArray) (w : World) (hLd : Laid w) (h : strings_Split.f a0 a1 = some r) :
    Calls Tryd.prog 33 #[.string a0, .string a1] w fun e w' => ∃ v0_, e = .returned v0_ ∧ Kd.R Kd.string 9 w' w.heap.size (fun _ => True) v0_ r ∧ Below w.heap.size w w' := by
  unfold strings_Split.f at h
  split at h
  · rename_i hc
    obtain rfl := Option.some.inj h
    obtain ⟨m, hm⟩ := hLd.ml
    have hl := Lib.splitB_all a1 hc.2 0 _ a0 rfl
    have hk : Lib.countB a0 a1 ≤ 9223372036854775806 := by have := Lib.countB_le a1 hc.2 a0.size a0 (Nat.le_refl _); omega
    refine (Tryd.strings_Split a0 a1 m w (by omega) hm hc.2).mono ?_
    rintro e w' ⟨rfl, rfl⟩
    refine ⟨_, rfl, ⟨fun _ _ => trivial, ?_⟩, (Below.refl _ w).alloc (Nat.le_refl _) _⟩
    rw [← hl]
    exact OwnRow.lit w w.heap.size (Kd.reps_scalar _) (Nat.le_refl _) (by omega)
  · cases h
end Go.Proofs.YthbadcdiagcfkaaDoor.PA

namespace Go.Proofs.YthbadcdiagcfkaaDoor.PA
open Go.RowKit Go.Proofs.YthbadcdiagcfkaaDoorW.PrintWords

def strings_Trim.f (a0 a1 : ByteArray) : Option ByteArray := if a0.size ≤ 9223372036854775807 ∧ a1.size ≤ 4294967280 ∧ (a1.data.toList.all fun b => decide (b.toNat < 128)) = true then some ⟨(Lib.trimS a0.data.toList a1.data.toList).toArray⟩ else none
theorem strings_Trim.calls (a0 a1 : ByteArray) (r : ByteArray) (w : World) (h : strings_Trim.f a0 a1 = some r) :
    Calls Tryd.prog 43 #[.string a0, .string a1] w fun e w' => e = .returned (.string r) ∧ Below w.heap.size w w' := by
  unfold strings_Trim.f at h
  split at h
  · rename_i hc
    obtain ⟨h1, h2, h3⟩ := hc
    obtain rfl := Option.some.inj h
    exact Any.strings_Trim_laid Tryd.lays160 (by kernel_rfl) a0 a1 w h1 (by omega) (ascii_of_all h3)
  · cases h
end Go.Proofs.YthbadcdiagcfkaaDoor.PA

namespace Go.Proofs.YthbadcdiagcfkaaDoor.Pl
open Go.RowKit Go.Proofs.YthbadcdiagcfkaaDoorW.PrintWords

/-- A list of bytes as a text. -/
def B (l : List UInt8) : ByteArray := ⟨l.toArray⟩
theorem B_eta (a : ByteArray) : B a.data.toList = a := rfl
theorem B_data (l : List UInt8) : (B l).data.toList = l := by simp [B]
theorem B_size (l : List UInt8) : (B l).size = l.length := by show l.toArray.size = _; simp
theorem B_ext {a b : ByteArray} (h : a.data.toList = b.data.toList) : a = b := by rw [← B_eta a, ← B_eta b, h]
theorem B_extract (l : List UInt8) (i j : Nat) : (B l).extract i j = B ((l.drop i).take (j - i)) := by
  apply B_ext
  rw [B_data, Lib.extract_data, B_data]
theorem B_from (l : List UInt8) (i n : Nat) (h : n = l.length) : (B l).extract i n = B (l.drop i) := by
  rw [B_extract, List.take_of_length_le (by simp; omega)]
theorem w64 {x : Int} (h0 : -9223372036854775808 ≤ x) (h1 : x ≤ 9223372036854775807) : wrap64 x = x := by unfold wrap64; omega
theorem u8_eq (x : UInt8) (n : Nat) (h : n < 256) : ((x.toNat : Int) = (n : Int)) ↔ x = UInt8.ofNat n := by
  constructor
  · intro e
    apply UInt8.toNat_inj.1
    rw [UInt8.toNat_ofNat']
    omega
  · intro e
    subst e
    rw [UInt8.toNat_ofNat']
    omega
theorem getD_at (l : List ByteArray) (i : Nat) (h : i < l.length) : rdOf ByteArray.empty l (i : Int) = l[i]'h := by
  unfold rdOf
  rw [Int.toNat_natCast, List.getD_eq_getElem?_getD, List.getElem?_eq_getElem h]
  rfl
end Go.Proofs.YthbadcdiagcfkaaDoor.Pl

namespace Go.Proofs.YthbadcdiagcfkaaDoor.PA
open Go.RowKit Go.Proofs.YthbadcdiagcfkaaDoorW.PrintWords Go.Proofs.YthbadcdiagcfkaaDoorW.PrintLast Go.Proofs.YthbadcdiagcfkaaDoorW.PrintMore Go.Proofs.YthbadcdiagcfkaaDoor.Pl
set_option linter.unusedVariables false
theorem infoS : (Tryd.prog.info? 9).map (fun i => (i.zero, i.size, i.bytes)) = some (some (.string ByteArray.empty), 1, 16) := by kernel_rfl
theorem row_made (w : World) (n : Nat) (hn : n ≤ 1000000) : ∃ w1, (Instr.makeSlice 27 (.int .i64 (n : Int)) (.int .i64 (n : Int))).run Tryd.prog w = .ok (.slice (some ⟨w.heap.size, 0, none⟩) n n) w1 ∧
    (∃ cur, w1.heap[w.heap.size]? = some (.cells cur 9 (0, 0)) ∧ cur.toList = List.replicate n (.string ByteArray.empty)) ∧ Below w.heap.size w w1 := by
  have hi := infoS
  cases hq : Tryd.prog.info? 9 with
  | none => rw [hq] at hi; cases hi
  | some i =>
    rw [hq] at hi
    simp only [Option.map_some, Option.some.injEq, Prod.mk.injEq] at hi
    obtain ⟨w1, h1, h2, h3⟩ := run_makeSlice_full (P := Tryd.prog) (w := w) w.heap.size 27 9 i (.string ByteArray.empty) 1 Tryd.underlying27 hq hi.1 hi.2.1 .i64 .i64 n (by omega) (by rw [hi.2.2]; omega) (by unfold maxLen; omega) (Nat.le_refl _)
    refine ⟨w1, h1, ?_, (Below.refl _ w).grown h3 (Nat.le_refl _) (fun k hk => by cases hk)⟩
    obtain ⟨h4, h5⟩ := h2
    rcases h5 with ⟨e, e2⟩ | ⟨g, cap, cur, e, _, hg, _, _, hs, ht⟩
    · cases e
    · simp only [Value.slice.injEq, Option.some.injEq, Addr.mk.injEq, and_true, true_and] at e
      obtain ⟨rfl, rfl⟩ := e
      refine ⟨cur, hg, ?_⟩
      rw [List.take_of_length_le (by rw [Array.length_toList, hs]; exact Nat.le_refl _)] at ht
      rw [ht]
      simp [madeCells, Value.cells]
      apply List.ext_getElem
      · simp
      · intro j h6 h7
        simp [Nat.mod_one]
theorem row_copied (A0 : Option Addr) (c0 : Nat) (l0 : List ByteArray) (n : Nat) (w w1 : World) (hr0 : Kd.C Kd.string w A0 l0.length l0) (hb : Below w.heap.size w w1) (cur : Array Value)
    (hg : w1.heap[w.heap.size]? = some (.cells cur 9 (0, 0))) (hc : cur.toList = List.replicate n (.string ByteArray.empty)) (hn : n ≤ 1000000) :
    ∃ w2 m, (∀ ty, (Builtin.copy_ #[27, 27] ty #[.slice (some ⟨w.heap.size, 0, none⟩) n n, .slice A0 l0.length c0]).run Tryd.prog w1 = .ok (goInt m) w2) ∧
      Kd.R Kd.string 9 w2 w.heap.size (fun _ => True) (.slice (some ⟨w.heap.size, 0, none⟩) n n) (l0.take n ++ List.replicate (n - l0.length) ByteArray.empty) ∧ Below w.heap.size w w2 := by
  have hs : (Tryd.prog.info? 9).map (·.size) = some 1 := by kernel_rfl
  have hcz : cur.size = n := by rw [← Array.length_toList, hc, List.length_replicate]
  have hlen : (l0.take n ++ List.replicate (n - l0.length) ByteArray.empty).length = n := by rw [List.length_append, List.length_take, List.length_replicate]; omega
  have hR := Kd.C_below hr0 hb
  have fin : ∀ (w2 : World) (cur2 : Array Value), w2.heap[w.heap.size]? = some (.cells cur2 9 (0, 0)) → cur2.toList = (l0.take n ++ List.replicate (n - l0.length) ByteArray.empty).map Value.string →
      Kd.R Kd.string 9 w2 w.heap.size (fun _ => True) (.slice (some ⟨w.heap.size, 0, none⟩) n n) (l0.take n ++ List.replicate (n - l0.length) ByteArray.empty) := by
    intro w2 cur2 h1 h2
    have h3 : cur2.size = n := by rw [← Array.length_toList, h2, List.length_map, hlen]
    refine Kd.R_of_own ⟨by rw [Nat.mul_one]; simp only [encs, List.length_map], .inr ⟨w.heap.size, n, cur2, by rw [hlen], Nat.le_refl _, h1, by omega, by unfold maxLen; omega, by omega, ?_⟩⟩ (fun _ _ => trivial)
    rw [List.take_of_length_le (by rw [h2, List.length_map, hlen]; omega), h2]
    rfl
  by_cases h0 : Nat.min l0.length n = 0
  · refine ⟨w1, 0, fun ty => run_copy_none w1 _ _ ty 9 _ _ _ _ _ _ Tryd.underlying27 hs h0, fin w1 cur hg ?_, hb⟩
    rw [hc]
    have h1 : Nat.min l0.length n = min l0.length n := rfl
    rcases Nat.eq_zero_or_pos n with hn0 | hn0
    · subst hn0; simp
    · have : l0 = [] := List.length_eq_zero_iff.1 (by omega)
      subst this
      simp
  · have h1 : Nat.min l0.length n = min l0.length n := rfl
    have hpos : 0 < l0.length := by omega
    obtain ⟨a, rfl, _⟩ := hR.2.2 hpos
    have hcell : ∀ (j : Nat) v, ((l0.take n).map Value.string)[j]? = some v → w1.cell? (a.add j) = some v := by
      intro j v hj
      rw [List.getElem?_map, Option.map_eq_some_iff] at hj
      obtain ⟨x, hx, rfl⟩ := hj
      rw [List.getElem?_take] at hx
      split at hx
      · have hjl : j < l0.length := (List.getElem?_eq_some_iff.1 hx).1
        obtain ⟨ad, e, hh⟩ := Kd.at_string hR (j : Int) (by omega) (by omega)
        cases e
        rw [Int.toNat_natCast] at hh
        rw [hh]
        have hg2 := getD_at l0 j hjl
        rw [hg2]
        rw [List.getElem?_eq_getElem hjl] at hx
        rw [Option.some.inj hx]
      · cases hx
    have hcl : ((l0.take n).map Value.string).length = Nat.min l0.length n := by rw [List.length_map, List.length_take]; exact Nat.min_comm _ _
    have hrun := fun ty => run_copy_row (P := Tryd.prog) w1 27 27 ty 9 w.heap.size 0 n n a l0.length c0 cur 9 ((l0.take n).map Value.string) Tryd.underlying27 hs hg hcl hcell (by rw [hcl, hcz]; omega) (by intro v hv; obtain ⟨x, _, rfl⟩ := List.mem_map.1 hv; rfl)
    refine ⟨_, _, hrun, fin _ _ (setRow_heap w1 w.heap.size cur _ _ _ hg) ?_, below_setRow hb (Nat.le_refl _) _⟩
    simp only [List.take_zero, List.nil_append, Nat.zero_add, List.map_append, List.map_replicate]
    rw [hc, List.drop_replicate, List.length_map, List.length_take, show n - min n l0.length = n - l0.length by omega]
set_option maxHeartbeats 1000000 in
set_option maxRecDepth 100000 in
theorem table_row.walk (A0 : Option Addr) (c0 : Nat) (l0 : List ByteArray) (n : Nat) (w : World) (hr0 : Kd.C Kd.string w A0 l0.length l0) (hn : n ≤ 1000000) :
    Calls Tryd.prog 35 #[.slice A0 l0.length c0, .int .i64 n] w fun e w' => ∃ v0_, e = .returned v0_ ∧ Kd.R Kd.string 9 w' w.heap.size (fun _ => True) v0_ (l0.take n ++ List.replicate (n - l0.length) ByteArray.empty) ∧ Below w.heap.size w w' := by
  obtain ⟨w1, hm, ⟨cur, hg, hc⟩, hb⟩ := row_made w n hn
  obtain ⟨w2, m, hcp, hR, hb2⟩ := row_copied A0 c0 l0 n w w1 hr0 hb cur hg hc hn
  have HR := Aside0.mk hR
  have HB := Aside0.mk hb2
  clear hR hb2 hg hc hb hr0
  go_enter Tryd.func35, Tryd.ntmps35
  go_wp2
  go_ret
  exact ⟨_, rfl, HR.out, HB.out⟩
def table_row.f (l0 : List ByteArray) (a1 : Int) : Option (List ByteArray) := if 0 ≤ a1 ∧ a1 ≤ 1000000 then some (l0.take a1.toNat ++ List.replicate (a1.toNat - l0.length) ByteArray.empty) else none
theorem table_row.calls (A0 : Option Addr) (c0 : Nat) (l0 : List ByteArray) (a1 : Int) (r : List ByteArray) (w : World) (hr0 : Kd.C Kd.string w A0 l0.length l0) (hc0 : l0.length ≤ c0) (h : table_row.f l0 a1 = some r) :
    Calls Tryd.prog 35 #[.slice A0 l0.length c0, .int .i64 a1] w fun e w' => ∃ v0_, e = .returned v0_ ∧ Kd.R Kd.string 9 w' w.heap.size (fun _ => True) v0_ r ∧ Below w.heap.size w w' := by
  unfold table_row.f at h
  split at h
  · rename_i hc
    obtain rfl := Option.some.inj h
    obtain ⟨n, rfl⟩ := Int.eq_ofNat_of_zero_le hc.1
    exact table_row.walk A0 c0 l0 n w hr0 (by omega)
  · cases h
end Go.Proofs.YthbadcdiagcfkaaDoor.PA

namespace Go.Proofs.YthbadcdiagcfkaaDoor.PA
open Go.RowKit Go.Shelf Go.Proofs.YthbadcdiagcfkaaDoor.Pl
set_option linter.unusedVariables false
attribute [local go_sem] Oper.semAt_some

/-- The parts of a text: what has come of this one, the byte ahead, what is left. -/
def prt : List UInt8 → UInt8 → List UInt8 → List (List UInt8)
  | cur, _, [] => [cur]
  | cur, prev, x :: t => if x = 124 ∧ prev ≠ 92 then cur :: prt [] x t else prt (cur ++ [x]) x t
theorem prt_len : ∀ (t cur : List UInt8) (prev : UInt8), (prt cur prev t).length ≤ t.length + 1
  | [], _, _ => by simp [prt]
  | x :: t, cur, prev => by
    unfold prt
    split
    · have := prt_len t [] x
      simp only [List.length_cons]
      omega
    · have := prt_len t (cur ++ [x]) x
      simp only [List.length_cons]
      omega
/-- The state of the iterator's loop. -/
def PrtAt (s : List UInt8) (fr k : Nat) (pre : List (List UInt8)) : Prop :=
  fr ≤ k ∧ k ≤ s.length ∧ pre ++ prt ((s.drop fr).take (k - fr)) (if k = 0 then 0 else s.getD (k - 1) 0) (s.drop k) = prt [] 0 s
theorem prtAt_cut (s : List UInt8) (fr k : Nat) (pre : List (List UInt8)) (h : PrtAt s fr k pre) (hk : k < s.length) (hx : s[k] = 124) (hp : k = 0 ∨ s.getD (k - 1) 0 ≠ 92) : PrtAt s (k + 1) (k + 1) (pre ++ [(s.drop fr).take (k - fr)]) := by
  obtain ⟨h1, h2, h3⟩ := h
  refine ⟨Nat.le_refl _, by omega, ?_⟩
  have hd : s.drop k = s[k] :: s.drop (k + 1) := List.drop_eq_getElem_cons hk
  have hprev : (if k = 0 then (0 : UInt8) else s.getD (k - 1) 0) ≠ 92 := by
    split
    · decide
    · rcases hp with e | e
      · omega
      · exact e
  rw [hd, prt, if_pos ⟨hx, hprev⟩] at h3
  rw [← h3, Nat.sub_self, List.take_zero, if_neg (by omega), Nat.add_sub_cancel, List.getD_eq_getElem?_getD, List.getElem?_eq_getElem hk, List.append_assoc]
  rfl
theorem prtAt_go (s : List UInt8) (fr k : Nat) (pre : List (List UInt8)) (h : PrtAt s fr k pre) (hk : k < s.length) (hx : s[k] ≠ 124 ∨ (k ≠ 0 ∧ s.getD (k - 1) 0 = 92)) : PrtAt s fr (k + 1) pre := by
  obtain ⟨h1, h2, h3⟩ := h
  refine ⟨by omega, by omega, ?_⟩
  have hd : s.drop k = s[k] :: s.drop (k + 1) := List.drop_eq_getElem_cons hk
  have hno : ¬ (s[k] = 124 ∧ (if k = 0 then (0 : UInt8) else s.getD (k - 1) 0) ≠ 92) := by
    rintro ⟨e1, e2⟩
    rcases hx with e | ⟨e, e3⟩
    · exact e e1
    · rw [if_neg e] at e2
      exact e2 e3
  rw [hd, prt, if_neg hno] at h3
  rw [← h3, if_neg (by omega), Nat.add_sub_cancel, List.getD_eq_getElem?_getD, List.getElem?_eq_getElem hk]
  congr 2
  rw [show k + 1 - fr = (k - fr) + 1 by omega, List.take_add_one, List.getElem?_drop, show fr + (k - fr) = k by omega, List.getElem?_eq_getElem hk]
  rfl
/-- A round keeps block Bs. -/
def KB (Bs : Nat) (W W' : World) : Prop := W'.heap[Bs]? = W.heap[Bs]?
theorem KB.cell {Bs : Nat} {W W' : World} (h : KB Bs W W') : W'.cell? ⟨Bs, 0, none⟩ = W.cell? ⟨Bs, 0, none⟩ := by
  unfold KB at h
  simp [World.cell?, h]
set_option maxRecDepth 100000 in
set_option maxHeartbeats 2000000 in
theorem parts1_in (F : Fence) (n : Nat) (hF : F.fn 47) (hro : F.round = none) (hn : 1 ≤ n) (l Bs : Nat) (s : List UInt8) (hz : s.length ≤ 1099511627776) (J Jx : List (List UInt8) → World → Prop)
    (hY : ∀ pre x W, J pre W → pre.length < (prt [] 0 s).length → x.length ≤ s.length → YieldAt F (n - 1) Tryd.prog l #[.string (B x)] W fun e W' =>
      (e = .returned (.bool true) ∧ J (pre ++ [x]) W' ∧ KB Bs W W') ∨ (e = .returned (.bool false) ∧ Jx (pre ++ [x]) W'))
    (W : World) (hBs : W.cell? ⟨Bs, 0, none⟩ = some (.string (B s))) (h0 : J [] W) :
    CallsIn F n Tryd.prog 47 #[.func (.yield l) #[] #[], .pointer (some ⟨Bs, 0, none⟩)] W fun e W' => (∃ v, e = .returned v) ∧
      ((∃ ys, ys = prt [] 0 s ∧ J ys W') ∨ (∃ pre, pre <+: prt [] 0 s ∧ Jx pre W')) := by
  have hsz : (B s).size = s.length := B_size s
  refine callsIn_of_wp Tryd.func47 rfl hF ?_ hro
  simp only [Tryd.ntmps47, List.size_toArray, List.length_cons, List.length_nil, Nat.reduceAdd, Nat.reduceSub, Array.replicate_succ, Array.replicate_zero, List.push_toArray, List.append_toArray, List.nil_append, List.cons_append]
  gi_wp2
  gi_loopw [3, 7] (fun v3 v7 wr => ∃ (fr k : Nat) (pre : List (List UInt8)), v3 = .int .i64 (fr : Int) ∧ v7 = .int .i64 (k : Int) ∧ PrtAt s fr k pre ∧ J pre wr ∧ KB Bs W wr)
    (fun v3 v7 _ => s.length - (intOf v7).toNat)
  case atStart => exact ⟨0, 0, [], rfl, rfl, ⟨Nat.le_refl _, Nat.zero_le _, by simp⟩, h0, rfl⟩
  case round =>
    obtain ⟨fr, k, pre, rfl, rfl, hP, hJ, hnx⟩ := hrel
    have hc := hnx.cell.trans hBs
    have HN := Lib.hid hnx
    clear hnx
    have hfk := hP.1
    have hkl := hP.2.1
    have hpl : pre.length < (prt [] 0 s).length := by
      rw [← hP.2.2, List.length_append]
      have : ∀ (t cur : List UInt8) (prev : UInt8), 0 < (prt cur prev t).length := by
        intro t
        induction t with
        | nil => intro cur prev; simp [prt]
        | cons x t ih => intro cur prev; unfold prt; split; simp; exact ih _ _
      have := this (s.drop k) ((s.drop fr).take (k - fr)) (if k = 0 then 0 else s.getD (k - 1) 0)
      omega
    by_cases hlt : k < s.length
    · have hk : k < (B s).size := by omega
      have hi : (B s)[k]'hk = s[k] := by
        show (B s).data[k]'hk = _
        exact List.getElem_toArray hlt
      have h124 : ((((B s)[k]'hk).toNat : Int) = 124) ↔ s[k] = 124 := by rw [hi]; exact u8_eq _ 124 (by omega)
      clear hi
      by_cases hx : s[k] = 124
      · have q1 : ((((B s)[k]'hk).toNat : Int) != 124) = false := bne_eq_false_iff_eq.2 (h124.2 hx)
        clear h124
        by_cases hp : k ≠ 0 ∧ s.getD (k - 1) 0 = 92
        · have hgo := prtAt_go s fr k pre hP hlt (.inr hp)
          have hp0 := hp.1
          have hk2 : k - 1 < s.length := by omega
          have hk1 : k - 1 < (B s).size := by omega
          have hi1 : (B s)[k - 1]'hk1 = s.getD (k - 1) 0 := by
            rw [List.getD_eq_getElem?_getD, List.getElem?_eq_getElem hk2]
            show (B s).data[k - 1]'hk1 = _
            exact List.getElem_toArray hk2
          have q2 : ((((B s)[k - 1]'hk1).toNat : Int) == 92) = true := by rw [hi1, hp.2]; rfl
          have q3 : decide (0 < k) = true := decide_eq_true (by omega)
          have q4 : ((k : Int) - 1).toNat = k - 1 := by omega
          have hp1 : 1 ≤ k := by omega
          have hp9 := hp.2
          clear hp
          clear hi1
          gi_wp2
          go_roundw
          case rel => exact ⟨fr, k + 1, pre, rfl, by simp, hgo, hJ, HN.out⟩
          case measure => simp [intOf]; omega
        · have hcut := prtAt_cut s fr k pre hP hlt hx (by
            by_cases h0 : k = 0
            · exact .inl h0
            · exact .inr (fun e => hp ⟨h0, e⟩))
          obtain ⟨fn, tmps, assign, body, hy, hR⟩ := hY pre ((s.drop fr).take (k - fr)) wr hJ hpl (by rw [List.length_take, List.length_drop]; omega)
          rw [← B_extract] at hy
          have hpre : pre ++ [(s.drop fr).take (k - fr)] <+: prt [] 0 s := ⟨_, hcut.2.2⟩
          have hq : (decide (0 < k) = false) ∨ (decide (0 < k) = true ∧ 1 ≤ k ∧ ∃ hk1 : k - 1 < (B s).size, ((((B s)[k - 1]'hk1).toNat : Int) == 92) = false) := by
            by_cases h0 : k = 0
            · exact .inl (decide_eq_false (by omega))
            · have hk2 : k - 1 < s.length := by omega
              have hk1 : k - 1 < (B s).size := by omega
              have hi1 : (B s)[k - 1]'hk1 = s.getD (k - 1) 0 := by
                rw [List.getD_eq_getElem?_getD, List.getElem?_eq_getElem hk2]
                show (B s).data[k - 1]'hk1 = _
                exact List.getElem_toArray hk2
              refine .inr ⟨decide_eq_true (by omega), by omega, hk1, beq_eq_false_iff_ne.2 (fun e => hp ⟨h0, ?_⟩)⟩
              rw [hi1] at e
              exact (u8_eq _ 92 (by omega)).1 e
          clear hp
          rcases hq with q3 | ⟨q3, hp1, hk1, q2⟩
          all_goals
            have q4 : ((k : Int) - 1).toNat = k - 1 := by omega
            gi_wp2
            refine hR.mono ?_
            rintro e W3 (⟨rfl, hJ3, hk3⟩ | ⟨rfl, hJx3⟩)
            · gi_wp2
              go_roundw
              case rel => exact ⟨k + 1, k + 1, _, by simp, by simp, hcut, hJ3, Eq.trans hk3 HN.out⟩
              case measure => simp [intOf]; omega
            · gi_wp2
              refine bodyPost_ret (results_none rfl _ _ _) rfl ?_
              exact ⟨⟨_, rfl⟩, .inr ⟨_, hpre, hJx3⟩⟩
      · have q1 : ((((B s)[k]'hk).toNat : Int) != 124) = true := by rw [bne_iff_ne]; exact fun e => hx (h124.1 e)
        have hgo := prtAt_go s fr k pre hP hlt (.inl hx)
        clear h124
        gi_wp2
        go_roundw
        case rel => exact ⟨fr, k + 1, pre, rfl, by simp, hgo, hJ, HN.out⟩
        case measure => simp [intOf]; omega
    · have hke : k = s.length := by omega
      have hfin : pre ++ [s.drop fr] = prt [] 0 s := by
        have h3 := hP.2.2
        rw [hke, List.drop_length, prt, List.take_of_length_le (by rw [List.length_drop]; exact Nat.le_refl _)] at h3
        exact h3
      obtain ⟨fn, tmps, assign, body, hy, hR⟩ := hY pre (s.drop fr) wr hJ hpl (by rw [List.length_drop]; omega)
      rw [← B_from s fr s.length rfl] at hy
      rw [hke] at hfk
      gi_wp2
      refine hR.mono ?_
      rintro e W3 (⟨rfl, hJ3, hk3⟩ | ⟨rfl, hJx3⟩)
      · gi_wp2
        go_end0
        exact ⟨⟨_, rfl⟩, .inl ⟨_, rfl, by rw [← hfin]; exact hJ3⟩⟩
      · gi_wp2
        go_end0
        exact ⟨⟨_, rfl⟩, .inr ⟨_, by rw [hfin]; exact List.prefix_refl _, hJx3⟩⟩
end Go.Proofs.YthbadcdiagcfkaaDoor.PA

namespace Go.Proofs.YthbadcdiagcfkaaDoor.PA
open Go.RowKit Go.Shelf Go.Proofs.YthbadcdiagcfkaaDoor.Pl Go.Proofs.YthbadcdiagcfkaaDoorW.PrintWords Go.Proofs.YthbadcdiagcfkaaDoorW.PrintLast Go.Proofs.YthbadcdiagcfkaaDoorW.PrintMore
set_option linter.unusedVariables false
attribute [local go_sem] Oper.semAt_some

theorem parts_in (F : Fence) (n : Nat) (hF : F.fn 30) (hro : F.round = none) (s : ByteArray) (w : World) :
    CallsIn F n Tryd.prog 30 #[.string s] w fun e w' => e = .returned (.func (.func 47) #[] #[.pointer (some ⟨w.heap.size, 0, none⟩)]) ∧ w' = w.alloc (.cells #[.string s] 9) := by
  refine callsIn_of_wp Tryd.func30 rfl hF ?_ hro
  simp only [Tryd.ntmps30, List.size_toArray, List.length_cons, List.length_nil, Nat.reduceAdd, Nat.reduceSub, Array.replicate_succ, Array.replicate_zero, List.push_toArray, List.append_toArray, List.nil_append, List.cons_append]
  gi_wp2
  go_ret
  exact ⟨rfl, rfl⟩
/-- A piece of at most n bytes. -/
abbrev Pc (n : Nat) := { x : List UInt8 // x.length ≤ n }
theorem parts_stops (F : Fence) (n : Nat) (hF : F.fn 47) (hro : F.round = none) (hn : 1 ≤ n) (Bs : Nat) (s : List UInt8) (hz : s.length ≤ 1099511627776) (w : World) (hb : Bs < w.heap.size)
    (hc : w.cell? ⟨Bs, 0, none⟩ = some (.string (B s))) :
    SeqStopsK F n Tryd.prog 47 #[.pointer (some ⟨Bs, 0, none⟩)] (fun x : Pc s.length => #[Value.string (B x.1)]) (KB Bs) (fun ys => ys.map Subtype.val = prt [] 0 s) (fun _ => True) (prt [] 0 s).length w := fun l J Jx W hW _ _ hY h0 => by
  refine (parts1_in F n hF hro hn l Bs s hz (fun pre W => ∃ ys : List (Pc s.length), ys.map Subtype.val = pre ∧ J ys W) (fun pre W => ∃ ys : List (Pc s.length), ys.map Subtype.val = pre ∧ Jx ys W) ?_ W ((hW.cell (p := ⟨Bs, 0, none⟩) (by show Bs < _; omega)).trans hc) ⟨[], rfl, h0⟩).mono ?_
  · rintro pre x W1 ⟨ys, rfl, hJ⟩ hlt hx
    refine (hY ys ⟨x, hx⟩ W1 hJ (by rw [List.length_map] at hlt; exact hlt)).mono ?_
    rintro e W2 (⟨rfl, h1, h2⟩ | ⟨rfl, h1⟩)
    · exact .inl ⟨rfl, ⟨_, by simp, h1⟩, h2⟩
    · exact .inr ⟨rfl, ⟨_, by simp, h1⟩⟩
  · rintro e W1 ⟨hv, ⟨ys, h1, zs, h2, h3⟩ | ⟨pre, h1, zs, h2, h3⟩⟩
    · exact ⟨hv, .inl ⟨zs, h2.trans h1, h3⟩⟩
    · exact ⟨hv, .inr ⟨zs, trivial, h3⟩⟩
theorem colTrim (a : ByteArray) (w : World) (h : a.size ≤ 1073741824) :
    Calls Tryd.prog 27 #[.string a] w fun e w' => e = .returned (.string ⟨(Lib.trimS a.data.toList [32, 9, 10, 11, 12, 13]).toArray⟩) ∧ Below w.heap.size w w' := by
  have hf : strings_Trim.f a ⟨#[32, 9, 10, 11, 12, 13]⟩ = some ⟨(Lib.trimS a.data.toList [32, 9, 10, 11, 12, 13]).toArray⟩ := by
    unfold strings_Trim.f
    rw [if_pos ⟨by omega, by decide, by decide⟩]
  go_enter Tryd.func27, Tryd.ntmps27
  go_wp2_with fail
  refine (strings_Trim.calls _ _ _ _ hf).mono ?_
  rintro e w1 ⟨rfl, hb⟩
  go_wp2
  go_ret
  exact ⟨rfl, hb⟩
theorem infoStr : (Tryd.prog.info? 9).map (fun i => (i.zero, i.size, i.bytes)) = some (some (.string ByteArray.empty), 1, 16) := by kernel_rfl
/-- A text without the backslashes ahead of bars. -/
def unb : List UInt8 → List UInt8
  | [] => []
  | [x] => [x]
  | x :: y :: t => if x = 92 ∧ y = 124 then 124 :: unb t else x :: unb (y :: t)
theorem unb_len (l : List UInt8) : (unb l).length ≤ l.length := by
  fun_induction unb l <;> simp_all <;> omega
theorem repl_unb : ∀ (n : Nat) (l : List UInt8), l.length ≤ n → Lib.replaceK [92, 124] [124] (Lib.count l [92, 124]) l = unb l
  | 0, l, h => by
    obtain rfl := List.length_eq_zero_iff.1 (Nat.le_zero.1 h)
    rfl
  | n + 1, [], _ => rfl
  | n + 1, [x], _ => by
    have hi : Lib.index [x] [92, 124] = -1 := by
      unfold Lib.index
      rw [if_neg (by simp [List.isPrefixOf])]
      rfl
    rw [Lib.count_miss hi]
    rfl
  | n + 1, x :: y :: t, h => by
    simp only [List.length_cons] at h
    by_cases hp : x = 92 ∧ y = 124
    · obtain ⟨rfl, rfl⟩ := hp
      have hi : Lib.index (92 :: 124 :: t) [92, 124] = ((0 : Nat) : Int) := by
        unfold Lib.index
        rw [if_pos (by simp [List.isPrefixOf])]
        rfl
      rw [Lib.count_hit (by simp) hi, Nat.add_comm, Lib.replaceK_hit _ _ _ _ _ hi, unb, if_pos ⟨rfl, rfl⟩]
      show [124] ++ Lib.replaceK _ _ (Lib.count t _) t = _
      rw [repl_unb n t (by omega)]
      rfl
    · have hnp : ¬ ([92, 124].isPrefixOf (x :: y :: t)) = true := by
        intro e
        simp [List.isPrefixOf] at e
        exact hp ⟨e.1.symm, e.2.symm⟩
      have ih := repl_unb n (y :: t) (by simp; omega)
      have hge := Lib.index_ge (y :: t) [92, 124]
      rw [unb, if_neg hp, ← ih]
      by_cases hm : Lib.index (y :: t) [92, 124] = -1
      · have hi : Lib.index (x :: y :: t) [92, 124] = -1 := by
          rw [Lib.index, if_neg hnp, if_pos (by rw [hm]; rfl)]
        rw [Lib.count_miss hi, Lib.count_miss hm]
        rfl
      · obtain ⟨i, hi0⟩ := Int.eq_ofNat_of_zero_le (a := Lib.index (y :: t) [92, 124]) (by omega)
        have hi : Lib.index (x :: y :: t) [92, 124] = ((i + 1 : Nat) : Int) := by
          rw [Lib.index, if_neg hnp, if_neg (by rw [hi0]; intro e; have := beq_iff_eq.1 e; omega), hi0]
          rfl
        rw [Lib.count_hit (by simp) hi, Lib.count_hit (by simp) hi0, Nat.add_comm 1 (Lib.count _ _), Lib.replaceK_hit _ _ _ _ _ hi, Nat.add_comm 1 (Lib.count _ _), Lib.replaceK_hit _ _ _ _ _ hi0]
        simp
theorem replAll (l : List UInt8) : Lib.replaceAll l [92, 124] [124] = unb l := by
  unfold Lib.replaceAll Lib.replace Lib.replaceNum
  rw [if_neg (by decide), if_pos (.inl (by decide))]
  exact repl_unb _ l (Nat.le_refl _)
/-- A cell's text. -/
def celB (p : List UInt8) : ByteArray := ⟨(Lib.trimS (unb p) [32, 9, 10, 11, 12, 13]).toArray⟩
theorem trimCall (y : List UInt8) (w : World) (h : y.length ≤ 1073741824) :
    Calls Tryd.prog 27 #[.string ⟨y.toArray⟩] w fun e w' => e = .returned (.string ⟨(Lib.trimS y [32, 9, 10, 11, 12, 13]).toArray⟩) ∧ Below w.heap.size w w' :=
  colTrim ⟨y.toArray⟩ w (by show y.toArray.size ≤ _; simpa using h)
theorem replCall (x : List UInt8) (w : World) (hLd : Laid w) (h : x.length ≤ 1048576) :
    Calls Tryd.prog 31 #[.string (B x), .string ⟨#[92, 124]⟩, .string ⟨#[124]⟩] w fun e w' => e = .returned (.string ⟨(unb x).toArray⟩) ∧ Below w.heap.size w w' := by
  obtain ⟨m, hm⟩ := hLd.ml
  have hs := B_size x
  have h1 := Lib.countB_le ⟨#[92, 124]⟩ (by decide) _ (B x) (Nat.le_refl _)
  have h2 := Tryd.strings_ReplaceAll (B x) ⟨#[92, 124]⟩ ⟨#[124]⟩ m w (by omega) hm (by decide) (by
    rw [show (ByteArray.size ⟨#[124]⟩) = 1 from rfl]
    omega)
  rw [B_data, replAll] at h2
  exact h2
/-- What is cut into cells. -/
def cut1 (s : List UInt8) : List UInt8 := Lib.trimPrefix (Lib.trimS s [32, 9, 10, 11, 12, 13]) [124]
def cutB (s : List UInt8) : List UInt8 := if Lib.hasSuffix (cut1 s) [92, 124] = true then cut1 s else Lib.trimSuffix (cut1 s) [124]
theorem dropW_len (p : UInt8 → Bool) : ∀ l : List UInt8, (l.dropWhile p).length ≤ l.length
  | [] => by simp
  | x :: t => by
    rw [List.dropWhile_cons]
    have := dropW_len p t
    split
    · rw [List.length_cons]; omega
    · exact Nat.le_refl _
theorem trimS_len (l cs : List UInt8) : (Lib.trimS l cs).length ≤ l.length := by
  unfold Lib.trimS Lib.trimLeftS Lib.trimRightS
  have h1 := dropW_len (fun c => cs.contains c) (l.reverse.dropWhile fun c => cs.contains c).reverse
  have h2 := dropW_len (fun c => cs.contains c) l.reverse
  rw [List.length_reverse] at h1 h2
  omega
theorem cut1_len (s : List UInt8) : (cut1 s).length ≤ s.length := by
  have h := trimS_len s [32, 9, 10, 11, 12, 13]
  unfold cut1 Lib.trimPrefix
  split
  · rw [List.length_drop]; omega
  · exact h
theorem cutB_len (s : List UInt8) : (cutB s).length ≤ s.length := by
  have h := cut1_len s
  unfold cutB
  split
  · exact h
  · unfold Lib.trimSuffix
    split
    · rw [List.length_take]; omega
    · exact h
/-- The builtin append onto what the call owns, as one step of a region that draws, inside a fence. -/
theorem stepIn_append_own {F : Fence} {n : Nat} {P : Program} {w : World} {ops : Array Oper} {o : Oper} {a : Act} {K : Act → World → Prop} {Q : Exit → Act → World → Prop} {E : Prop}
    (hg : o.guard = none) (s x : Operand) (t : TypeId) (hop : o.op = Op.call { callee := Callee.builtin Builtin.append, args := #[s, x], argTypes := #[t, t] })
    (base : Nat) (e : TypeId) (i : TypeInfo) (z : Value) (size bytes : Nat) (h1 : P.underlying t = some (.slice e)) (h2 : P.info? e = some i) (h3 : i.zero = some z) (h4 : i.size = size) (h5 : i.bytes = bytes) (h6 : z.cells.size = size) (h7 : 0 < size)
    (v : Value) (k : Nat) (xs : List Value) (hs : a.eval s = v) (hown : w.ownsRow base e size v k xs) (ad : Addr) (m c : Nat) (news : List Value) (hx : a.eval x = .slice (some ad) m c) (hn : news.length = m * size)
    (hc : ∀ j u, news[j]? = some u → w.cell? (ad.add j) = some u) (h1c : ∀ u ∈ news, u.oneCell' = true) (b1 : k + m ≤ maxLen) (b2 : (k + m) * bytes ≤ 140737488355328) (b3 : base ≤ w.heap.size)
    (hK : ∀ v' w', w'.ownsRow base e size v' (k + m) (xs ++ news) → w.grownBy w' v.ownBlock → K (a.put o.dst v') w') :
    if Region.wanted o (yielded ops a.tmps) = true then Oper.wpIn F n P o a w K Q else E := by
  have hw : Region.wanted o (yielded ops a.tmps) = true := by simp [Region.wanted, hg]
  rw [if_pos hw]
  obtain ⟨v', w', hrun, r1, r2, r3⟩ := run_append_own (P := P) w base t o.type e i z size bytes h1 h2 h3 h4 h5 h6 h7 v k xs hown ad m c news hn hc h1c b1 b2 b3
  unfold Oper.wpIn
  refine ⟨?_, ?_⟩
  · simp [Oper.about, hop, resolve, Target.leads, Sem.run_pure]
  · rw [Oper.semAt_plain F _ _ (by rw [hop]; intro c hc'; cases hc')]
    simp [execOp, hop, resolve, invoke, builtin, hs, hx, hrun, Result.andThen]
    exact hK _ _ r1 r2
theorem own_base {W : World} {B B' : Nat} {e : TypeId} {size n : Nat} {v : Value} {xs : List Value} (h : W.ownsRow B e size v n xs) (hb : B' ≤ B) : W.ownsRow B' e size v n xs := by
  rcases h with ⟨h1, h2 | ⟨g, cap, cur, h3, h4, h5⟩⟩
  · exact ⟨h1, .inl h2⟩
  · exact ⟨h1, .inr ⟨g, cap, cur, h3, Nat.le_trans hb h4, h5⟩⟩
theorem own_at {W : World} {B : Nat} {e : TypeId} {size n : Nat} {v : Value} {xs : List Value} (h : W.ownsRow B e size v n xs) (b : Nat) (hb : b < B) : some b ≠ v.ownBlock := by
  rcases h with ⟨h1, ⟨rfl, _⟩ | ⟨g, cap, cur, rfl, h4, h5⟩⟩
  · simp [Value.ownBlock]
  · intro e
    have : b = g := by simpa [Value.ownBlock] using e
    omega
theorem keepsO_below {W W' : World} (h : Below W.heap.size W W') : KeepsOthers W W' := ⟨h.size, fun k o hk _ => (h.block k (Array.getElem?_eq_some_iff.1 hk).1).trans hk⟩
theorem boxed_below {W W' : World} {b : Nat} {t : TypeId} {v : Value} (h : Boxed W b t v) (hb : Below W.heap.size W W') : Boxed W' b t v := (hb.block b h.lt).trans h
/-- What stands in the round's world X, which has come of W. -/
structure RSt (B0 Bx Bs Bf : Nat) (v : Value) (n : Nat) (xs : List Value) (W X : World) : Prop where
  laid : Laid X
  box : Boxed X Bx 27 v
  row : X.ownsRow Bf 9 1 v n xs
  bel : KB Bs W X ∧ Below B0 W X
  keep : KeepsFrom Bf W X
  bz : B0 ≤ X.heap.size ∧ Bs < X.heap.size ∧ Bf ≤ X.heap.size
theorem RSt.go {B0 Bx Bs Bf : Nat} {v : Value} {n : Nat} {xs : List Value} {W X Y : World} (h : RSt B0 Bx Bs Bf v n xs W X) (hb : Below X.heap.size X Y) : RSt B0 Bx Bs Bf v n xs W Y :=
  ⟨h.laid.go hb, boxed_below h.box hb, pw_own_below h.row hb, ⟨Eq.trans (hb.block _ h.bz.2.1) h.bel.1, h.bel.2.trans (hb.mono h.bz.1)⟩, h.keep.trans ((keepsO_below hb).from _), by have := hb.size; have := h.bz; omega⟩
set_option maxRecDepth 100000 in
set_option maxHeartbeats 2000000 in
theorem cells_walk (s0 : ByteArray) (w : World) (hLd : Laid w) (hs : s0.size ≤ 1048576) : Calls Tryd.prog 13 #[.string s0] w fun e w' => ∃ v0_, e = .returned v0_ ∧ Kd.R Kd.string 9 w' w.heap.size (fun _ => True) v0_ ((prt [] 0 (cutB s0.data.toList)).map celB) ∧ Below w.heap.size w w' := by
  have hl0 : s0.data.toList.length ≤ 1048576 := by rw [Array.length_toList]; exact hs
  have hz1 := cut1_len s0.data.toList
  have hz2 := cutB_len s0.data.toList
  have hcB : cutB s0.data.toList = if Lib.hasSuffix (cut1 s0.data.toList) [92, 124] = true then cut1 s0.data.toList else Lib.trimSuffix (cut1 s0.data.toList) [124] := rfl
  obtain ⟨i0, hi, hi0, hi1, hi2⟩ := info_parts infoStr
  obtain ⟨s2, hs2⟩ : ∃ s2, cutB s0.data.toList = s2 := ⟨_, rfl⟩
  rw [hs2] at hz2 hcB ⊢
  clear hs2
  refine (callsIn_wide (n := 5)).1 ?_
  refine callsIn_of_wp_marks Tryd.func13 rfl trivial ?_ rfl
  simp only [Tryd.ntmps13, List.size_toArray, List.length_cons, List.length_nil, Nat.reduceAdd, Nat.reduceSub, Array.replicate_succ, Array.replicate_zero, List.push_toArray, List.append_toArray, List.nil_append, List.cons_append]
  gi_wp2
  refine ⟨trivial, ?_⟩
  refine (callsIn_wide.2 (colTrim s0 w (by omega))).mono ?_
  rintro e w1 ⟨rfl, hb1⟩
  gi_wp2
  refine ⟨trivial, ?_⟩
  refine (callsIn_wide.2 (Tryd.strings_TrimPrefix _ _ w1)).mono ?_
  rintro e w1' ⟨rfl, rfl⟩
  rw [show (⟨(Lib.trimPrefix (ByteArray.mk (Lib.trimS s0.data.toList [32, 9, 10, 11, 12, 13]).toArray).data.toList (ByteArray.mk #[124]).data.toList).toArray⟩ : ByteArray) = B (cut1 s0.data.toList) from rfl]
  generalize cut1 s0.data.toList = s1 at hz1 hcB ⊢
  gi_wp2
  refine ⟨trivial, ?_⟩
  refine (callsIn_wide.2 (Tryd.strings_HasSuffix (B s1) _ w1' (by rw [B_size]; omega))).mono ?_
  rintro e w1 ⟨rfl, rfl⟩
  rw [B_data]
  cases hsf : Lib.hasSuffix s1 [92, 124] with
  | true =>
    rw [hsf, if_pos rfl] at hcB
    subst hcB
    clear hsf
    gi_wp2
    refine ⟨trivial, ?_⟩
    refine (parts_in Fence.wide 4 trivial rfl (B s2) _).mono ?_
    rintro e w' ⟨rfl, rfl⟩
    gi_wp2
    have bO := Boxed.new w1 27 (.slice none 0 0)
    have bN := Boxed.new (w1.alloc (.cells #[.slice none 0 0] 27)) 9 (.string (B s2))
    rw [World.size_alloc] at bN
    have hB0 : Below w.heap.size w ((w1.alloc (.cells #[.slice none 0 0] 27)).alloc (.cells #[.string (B s2)] 9)) := (hb1.alloc hb1.size _).alloc (by have := hb1.size; simp; omega) _
    have hsz1 := hb1.size
    refine wpIn_rangeFunc_ownG rfl (by decide) (gf := 47) (lb := #[.pointer (some ⟨w1.heap.size + 1, 0, none⟩)]) rfl trivial (enters_of Tryd.func47 (by kernel_rfl) rfl)
      (parts_stops Fence.wide 4 trivial rfl (by omega) (w1.heap.size + 1) s2 (by omega) _ (by simp) bN.cell) (fun h k => Eq.trans k h) (fun W l o o' hl ho _ _ => by simp only [World.size_alloc] at hl; exact World.putObj_heap_other (by omega)) (Below.refl _ _) (fun _ => rfl)
      (fun (pre : List (Pc s2.length)) W => (∃ v, Boxed W w1.heap.size 27 v ∧ W.ownsRow (w1.heap.size + 2) 9 1 v pre.length ((pre.map fun x => celB x.1).map Value.string) ∧ True) ∧ Below w.heap.size w W ∧ w1.heap.size + 2 ≤ W.heap.size)
      (fun _ _ _ => False)
      (OwnFrom.and (Own.from (holdsRow_own (w1.heap.size + 2) w1.heap.size 27 9 1 (fun (pre : List (Pc s2.length)) => pre.length) (fun (pre : List (Pc s2.length)) => (pre.map fun x => celB x.1).map Value.string) (fun _ _ => True)) _) (OwnFrom.and (ownFrom_below (Nat.le_refl _) (by simp; omega)) (fun _ X Y row hs hg hr => by have := hg.size; omega)))
      (fun _ _ _ _ _ hs _ _ => hs)
      ⟨⟨_, bO.alloc _, World.ownsRow_nil _ _ _ _, trivial⟩, hB0, by simp⟩
      (fun x => { tmps := #[Value.string (B s2), undef, Value.slice none 0 0, Value.pointer (some { block := w1.heap.size, off := 0 }), Value.string (B x.1), Value.string s0, Value.string { data := (Lib.trimS s0.data.toList [32, 9, 10, 11, 12, 13]).toArray }, Value.string (B s2), Value.string (B s2), Value.bool true, Value.bool false, undef, undef, Value.string (B s2), Value.func (Fn.func 47) #[] #[Value.pointer (some { block := w1.heap.size + 1, off := 0 })], Value.string (B x.1), undef, undef, undef, undef, undef, undef, undef], defers := [] }) ?assign ?body ?done ?stop
    case assign =>
      intro l x W K hK
      gi_wp2
      exact hK
    case body =>
      rintro l pre ⟨x, hx⟩ W ⟨⟨v, hv, hrow, _⟩, hB, hge⟩ hlt
      have hL := hLd.go hB
      have hmx : Tryd.prog.follows .mixedOrders = true := by kernel_rfl
      have hul := unb_len x
      have hpl := prt_len s2 [] 0
      have hS : RSt w.heap.size w1.heap.size (w1.heap.size + 1) (w1.heap.size + 2) v pre.length ((pre.map fun x => celB x.1).map Value.string) W W.drew :=
        ⟨hL.go (below_drew (Below.refl _ _)), boxed_below hv (below_drew (Below.refl _ _)), pw_own_below hrow (below_drew (Below.refl _ _)), ⟨rfl, below_drew (Below.refl _ _)⟩, (KeepsOthers.drew _).from _, by have h1 := hB.size; have h2 := hv.lt; exact ⟨h1, by show w1.heap.size + 1 < W.heap.size; omega, hge⟩⟩
      have hc := hS.box.cell
      gi_wp2
      refine wpIn_region_any hmx ?_
      change wpAnyIn _ _ _ _ _ _ _ _ _ (World.drew _)
      clear hrow hv hL
      repeat' (first
        | exact AllReadyIn.nil
        | (refine wpAnyIn_ready (rs := [0, 1]) (by decide +kernel) (by decide) ?_)
        | (refine wpAnyIn_ready (rs := [0, 2]) (by decide +kernel) (by decide) ?_)
        | (refine wpAnyIn_ready (rs := [0, 3]) (by decide +kernel) (by decide) ?_)
        | (refine wpAnyIn_ready (rs := [0, 4]) (by decide +kernel) (by decide) ?_)
        | (refine wpAnyIn_ready (rs := [0]) (by decide +kernel) (by decide) ?_)
        | (refine wpAnyIn_ready (rs := [1]) (by decide +kernel) (by decide) ?_)
        | (refine wpAnyIn_ready (rs := [2]) (by decide +kernel) (by decide) ?_)
        | (refine wpAnyIn_ready (rs := [3]) (by decide +kernel) (by decide) ?_)
        | (refine wpAnyIn_ready (rs := [4]) (by decide +kernel) (by decide) ?_)
        | (refine AllReadyIn.cons (i := 0) rfl (fun K hK => ?_) ?_; (go_simp; refine hK _ _ ?_; clear hK K))
        | (refine AllReadyIn.cons (i := 0) rfl (fun K hK => ?_) ?_; (have hca := (hS.box.alloc (.cells #[.string ⟨(Lib.trimS (unb x) [32, 9, 10, 11, 12, 13]).toArray⟩] 9)).cell; go_simp; refine hK _ _ ?_; clear hK K hca))
        | (refine AllReadyIn.cons (i := 1) rfl (fun K hK => ?_) ?_; (go_simp; refine hK _ _ ?_; clear hK K))
        | (refine AllReadyIn.cons (i := 2) rfl (fun K hK => ?_) ?_; (go_simp; refine ⟨trivial, ?_⟩; refine (CallsIn.inRound l (callsIn_wide.2 (replCall x _ hS.laid (by omega)))).mono ?_; rintro e W2 ⟨rfl, hb⟩; replace hS := hS.go hb; replace hc := hS.box.cell; clear hb; refine hK _ _ ?_; clear hK K))
        | (refine AllReadyIn.cons (i := 3) rfl (fun K hK => ?_) ?_; (go_simp; refine ⟨trivial, ?_⟩; refine (CallsIn.inRound l (callsIn_wide.2 (trimCall (unb x) _ (by omega)))).mono ?_; rintro e W2 ⟨rfl, hb⟩; replace hS := hS.go hb; replace hc := hS.box.cell; clear hb; refine hK _ _ ?_; clear hK K))
        | (refine AllReadyIn.cons (i := 4) rfl (fun K hK => ?_) ?_; (go_simp; refine hK _ _ ?_; clear hK K)))
      all_goals
        refine wpAnyIn_ready (rs := [5]) (by decide +kernel) (by decide) ?_
        refine AllReadyIn.cons (i := 5) rfl (fun K hK => ?_) AllReadyIn.nil
        refine stepIn_append_own rfl (.tmp 16) (.tmp 20) 27 rfl (w1.heap.size + 2) 9 i0 (.string ByteArray.empty) 1 16 Tryd.underlying27 hi hi0 hi1 hi2 rfl (by decide) v _ _ rfl (hS.row.alloc _) ⟨W2.heap.size, 0, none⟩ 1 1 [.string (celB x)] rfl rfl (cell_one_new _ _ _) (by simp [Value.oneCell']) (by unfold maxLen; omega) (by omega) (by have := hS.bz.2.2; simp; omega) ?_
        rintro v' w3 hown' hgrow
        obtain ⟨g', cap', rfl⟩ := ownsRow_succ hown'
        obtain ⟨hv1, hv2, hr2, hk2, hb2⟩ := hS.box.appended (by decide) (own_base hS.row (B' := w.heap.size) (by omega)) hS.bz.1 hsz1 (own_base hown' (by omega)) hgrow
        have hc1 := hv1.cell
        have hf1 := hv1.frozen
        refine hK _ _ ?_
        clear hK K hc
        refine wpAnyIn_ready (rs := [6]) (by decide +kernel) (by decide) ?_
        refine AllReadyIn.cons (i := 6) rfl (fun K hK => ?_) AllReadyIn.nil
        go_simp
        refine hK _ _ ?_
        clear hK K
        refine wpAnyIn_done (by decide +kernel) ?_ _
        have hkb : KB (w1.heap.size + 1) W (w3.setCell ⟨w1.heap.size, 0, none⟩ (.slice (some ⟨g', 0, none⟩) (pre.length + 1) cap')) :=
          (Below.heap_setCell w3 ⟨w1.heap.size, 0, none⟩ _ (w1.heap.size + 1) (by simp)).trans ((hgrow.block (w1.heap.size + 1) (by have := hS.bz.2.1; simp; omega) (own_at hS.row _ (by omega))).trans ((Below.heap_alloc _ _ _ hS.bz.2.1).trans hS.bel.1))
        refine ⟨by rw [World.size_alloc, World.size_alloc]; exact hS.keep.trans (hk2.from _), hkb, ⟨_, hv2, ?_, trivial⟩, hB.trans (hS.bel.2.trans hb2), ?_⟩
        · have h9 := hown'.kept (grownBy_setCell' w3 w1.heap.size (.slice (some ⟨g', 0, none⟩) (pre.length + 1) cap')) (.inr (own_at hown' _ (by omega)).symm)
          rw [List.length_append, List.map_append, List.map_append]
          exact h9
        · have := hk2.size
          have := hS.bz.2.2
          omega
    case done =>
      rintro D ys W hD hys ⟨⟨v, hv, hrow, _⟩, hB, _⟩ hK
      have hc := hv.cell
      gi_wp2
      refine ⟨by simp, .inl ⟨_, _, rfl, run_takeDeferred hK, ?_⟩⟩
      have hr3 := ownsRow_putObj hrow (.deferred none) hK rfl
      have hb3 := hB.trans (belowK_b (w := w) (Nat.le_refl _) W D _ (.deferred none) (by simp at hD; omega) hK rfl rfl)
      have hl3 : ys.map (fun x => celB x.1) = (prt [] 0 s2).map celB := by rw [← hys, List.map_map]; rfl
      rw [hl3, show ys.length = ((prt [] 0 s2).map celB).length by rw [← hl3, List.length_map]] at hr3
      exact ⟨_, results_tmp rfl _ _ _, v, rfl, Kd.R_of_own (own_base hr3 (by omega)) (fun _ _ => trivial), hb3⟩
    case stop =>
      rintro D c pre W _ _ h _
      exact h.elim
  | false =>
    rw [hsf, if_neg (by decide)] at hcB
    clear hsf
    gi_wp2
    refine ⟨trivial, ?_⟩
    refine (callsIn_wide.2 (Tryd.strings_TrimSuffix (B s1) _ w1 (by rw [B_size]; omega))).mono ?_
    rintro e w1' ⟨rfl, rfl⟩
    rw [B_data, show (⟨(Lib.trimSuffix s1 (ByteArray.mk #[124]).data.toList).toArray⟩ : ByteArray) = B s2 from by rw [hcB]; rfl]
    clear hcB
    gi_wp2
    refine ⟨trivial, ?_⟩
    refine (parts_in Fence.wide 4 trivial rfl (B s2) _).mono ?_
    rintro e w' ⟨rfl, rfl⟩
    gi_wp2
    have bO := Boxed.new w1' 27 (.slice none 0 0)
    have bN := Boxed.new (w1'.alloc (.cells #[.slice none 0 0] 27)) 9 (.string (B s2))
    rw [World.size_alloc] at bN
    have hB0 : Below w.heap.size w ((w1'.alloc (.cells #[.slice none 0 0] 27)).alloc (.cells #[.string (B s2)] 9)) := (hb1.alloc hb1.size _).alloc (by have := hb1.size; simp; omega) _
    have hsz1 := hb1.size
    refine wpIn_rangeFunc_ownG rfl (by decide) (gf := 47) (lb := #[.pointer (some ⟨w1'.heap.size + 1, 0, none⟩)]) rfl trivial (enters_of Tryd.func47 (by kernel_rfl) rfl)
      (parts_stops Fence.wide 4 trivial rfl (by omega) (w1'.heap.size + 1) s2 (by omega) _ (by simp) bN.cell) (fun h k => Eq.trans k h) (fun W l o o' hl ho _ _ => by simp only [World.size_alloc] at hl; exact World.putObj_heap_other (by omega)) (Below.refl _ _) (fun _ => rfl)
      (fun (pre : List (Pc s2.length)) W => (∃ v, Boxed W w1'.heap.size 27 v ∧ W.ownsRow (w1'.heap.size + 2) 9 1 v pre.length ((pre.map fun x => celB x.1).map Value.string) ∧ True) ∧ Below w.heap.size w W ∧ w1'.heap.size + 2 ≤ W.heap.size)
      (fun _ _ _ => False)
      (OwnFrom.and (Own.from (holdsRow_own (w1'.heap.size + 2) w1'.heap.size 27 9 1 (fun (pre : List (Pc s2.length)) => pre.length) (fun (pre : List (Pc s2.length)) => (pre.map fun x => celB x.1).map Value.string) (fun _ _ => True)) _) (OwnFrom.and (ownFrom_below (Nat.le_refl _) (by simp; omega)) (fun _ X Y row hs hg hr => by have := hg.size; omega)))
      (fun _ _ _ _ _ hs _ _ => hs)
      ⟨⟨_, bO.alloc _, World.ownsRow_nil _ _ _ _, trivial⟩, hB0, by simp⟩
      (fun x => { tmps := #[Value.string (B s2), undef, Value.slice none 0 0, Value.pointer (some { block := w1'.heap.size, off := 0 }), Value.string (B x.1), Value.string s0, Value.string { data := (Lib.trimS s0.data.toList [32, 9, 10, 11, 12, 13]).toArray }, Value.string (B s1), Value.string (B s1), Value.bool false, Value.bool true, Value.string (B s1), Value.string (B s2), Value.string (B s2), Value.func (Fn.func 47) #[] #[Value.pointer (some { block := w1'.heap.size + 1, off := 0 })], Value.string (B x.1), undef, undef, undef, undef, undef, undef, undef], defers := [] }) ?assign ?body ?done ?stop
    case assign =>
      intro l x W K hK
      gi_wp2
      exact hK
    case body =>
      rintro l pre ⟨x, hx⟩ W ⟨⟨v, hv, hrow, _⟩, hB, hge⟩ hlt
      have hL := hLd.go hB
      have hmx : Tryd.prog.follows .mixedOrders = true := by kernel_rfl
      have hul := unb_len x
      have hpl := prt_len s2 [] 0
      have hS : RSt w.heap.size w1'.heap.size (w1'.heap.size + 1) (w1'.heap.size + 2) v pre.length ((pre.map fun x => celB x.1).map Value.string) W W.drew :=
        ⟨hL.go (below_drew (Below.refl _ _)), boxed_below hv (below_drew (Below.refl _ _)), pw_own_below hrow (below_drew (Below.refl _ _)), ⟨rfl, below_drew (Below.refl _ _)⟩, (KeepsOthers.drew _).from _, by have h1 := hB.size; have h2 := hv.lt; exact ⟨h1, by show w1'.heap.size + 1 < W.heap.size; omega, hge⟩⟩
      have hc := hS.box.cell
      gi_wp2
      refine wpIn_region_any hmx ?_
      change wpAnyIn _ _ _ _ _ _ _ _ _ (World.drew _)
      clear hrow hv hL
      repeat' (first
        | exact AllReadyIn.nil
        | (refine wpAnyIn_ready (rs := [0, 1]) (by decide +kernel) (by decide) ?_)
        | (refine wpAnyIn_ready (rs := [0, 2]) (by decide +kernel) (by decide) ?_)
        | (refine wpAnyIn_ready (rs := [0, 3]) (by decide +kernel) (by decide) ?_)
        | (refine wpAnyIn_ready (rs := [0, 4]) (by decide +kernel) (by decide) ?_)
        | (refine wpAnyIn_ready (rs := [0]) (by decide +kernel) (by decide) ?_)
        | (refine wpAnyIn_ready (rs := [1]) (by decide +kernel) (by decide) ?_)
        | (refine wpAnyIn_ready (rs := [2]) (by decide +kernel) (by decide) ?_)
        | (refine wpAnyIn_ready (rs := [3]) (by decide +kernel) (by decide) ?_)
        | (refine wpAnyIn_ready (rs := [4]) (by decide +kernel) (by decide) ?_)
        | (refine AllReadyIn.cons (i := 0) rfl (fun K hK => ?_) ?_; (go_simp; refine hK _ _ ?_; clear hK K))
        | (refine AllReadyIn.cons (i := 0) rfl (fun K hK => ?_) ?_; (have hca := (hS.box.alloc (.cells #[.string ⟨(Lib.trimS (unb x) [32, 9, 10, 11, 12, 13]).toArray⟩] 9)).cell; go_simp; refine hK _ _ ?_; clear hK K hca))
        | (refine AllReadyIn.cons (i := 1) rfl (fun K hK => ?_) ?_; (go_simp; refine hK _ _ ?_; clear hK K))
        | (refine AllReadyIn.cons (i := 2) rfl (fun K hK => ?_) ?_; (go_simp; refine ⟨trivial, ?_⟩; refine (CallsIn.inRound l (callsIn_wide.2 (replCall x _ hS.laid (by omega)))).mono ?_; rintro e W2 ⟨rfl, hb⟩; replace hS := hS.go hb; replace hc := hS.box.cell; clear hb; refine hK _ _ ?_; clear hK K))
        | (refine AllReadyIn.cons (i := 3) rfl (fun K hK => ?_) ?_; (go_simp; refine ⟨trivial, ?_⟩; refine (CallsIn.inRound l (callsIn_wide.2 (trimCall (unb x) _ (by omega)))).mono ?_; rintro e W2 ⟨rfl, hb⟩; replace hS := hS.go hb; replace hc := hS.box.cell; clear hb; refine hK _ _ ?_; clear hK K))
        | (refine AllReadyIn.cons (i := 4) rfl (fun K hK => ?_) ?_; (go_simp; refine hK _ _ ?_; clear hK K)))
      all_goals
        refine wpAnyIn_ready (rs := [5]) (by decide +kernel) (by decide) ?_
        refine AllReadyIn.cons (i := 5) rfl (fun K hK => ?_) AllReadyIn.nil
        refine stepIn_append_own rfl (.tmp 16) (.tmp 20) 27 rfl (w1'.heap.size + 2) 9 i0 (.string ByteArray.empty) 1 16 Tryd.underlying27 hi hi0 hi1 hi2 rfl (by decide) v _ _ rfl (hS.row.alloc _) ⟨W2.heap.size, 0, none⟩ 1 1 [.string (celB x)] rfl rfl (cell_one_new _ _ _) (by simp [Value.oneCell']) (by unfold maxLen; omega) (by omega) (by have := hS.bz.2.2; simp; omega) ?_
        rintro v' w3 hown' hgrow
        obtain ⟨g', cap', rfl⟩ := ownsRow_succ hown'
        obtain ⟨hv1, hv2, hr2, hk2, hb2⟩ := hS.box.appended (by decide) (own_base hS.row (B' := w.heap.size) (by omega)) hS.bz.1 hsz1 (own_base hown' (by omega)) hgrow
        have hc1 := hv1.cell
        have hf1 := hv1.frozen
        refine hK _ _ ?_
        clear hK K hc
        refine wpAnyIn_ready (rs := [6]) (by decide +kernel) (by decide) ?_
        refine AllReadyIn.cons (i := 6) rfl (fun K hK => ?_) AllReadyIn.nil
        go_simp
        refine hK _ _ ?_
        clear hK K
        refine wpAnyIn_done (by decide +kernel) ?_ _
        have hkb : KB (w1'.heap.size + 1) W (w3.setCell ⟨w1'.heap.size, 0, none⟩ (.slice (some ⟨g', 0, none⟩) (pre.length + 1) cap')) :=
          (Below.heap_setCell w3 ⟨w1'.heap.size, 0, none⟩ _ (w1'.heap.size + 1) (by simp)).trans ((hgrow.block (w1'.heap.size + 1) (by have := hS.bz.2.1; simp; omega) (own_at hS.row _ (by omega))).trans ((Below.heap_alloc _ _ _ hS.bz.2.1).trans hS.bel.1))
        refine ⟨by rw [World.size_alloc, World.size_alloc]; exact hS.keep.trans (hk2.from _), hkb, ⟨_, hv2, ?_, trivial⟩, hB.trans (hS.bel.2.trans hb2), ?_⟩
        · have h9 := hown'.kept (grownBy_setCell' w3 w1'.heap.size (.slice (some ⟨g', 0, none⟩) (pre.length + 1) cap')) (.inr (own_at hown' _ (by omega)).symm)
          rw [List.length_append, List.map_append, List.map_append]
          exact h9
        · have := hk2.size
          have := hS.bz.2.2
          omega
    case done =>
      rintro D ys W hD hys ⟨⟨v, hv, hrow, _⟩, hB, _⟩ hK
      have hc := hv.cell
      gi_wp2
      refine ⟨by simp, .inl ⟨_, _, rfl, run_takeDeferred hK, ?_⟩⟩
      have hr3 := ownsRow_putObj hrow (.deferred none) hK rfl
      have hb3 := hB.trans (belowK_b (w := w) (Nat.le_refl _) W D _ (.deferred none) (by simp at hD; omega) hK rfl rfl)
      have hl3 : ys.map (fun x => celB x.1) = (prt [] 0 s2).map celB := by rw [← hys, List.map_map]; rfl
      rw [hl3, show ys.length = ((prt [] 0 s2).map celB).length by rw [← hl3, List.length_map]] at hr3
      exact ⟨_, results_tmp rfl _ _ _, v, rfl, Kd.R_of_own (own_base hr3 (by omega)) (fun _ _ => trivial), hb3⟩
    case stop =>
      rintro D c pre W _ _ h _
      exact h.elim
def table_Cells.f (a0 : ByteArray) : Option (List ByteArray) := if a0.size ≤ 1048576 then some ((prt [] 0 (cutB a0.data.toList)).map celB) else none
theorem table_Cells.calls (a0 : ByteArray) (r : List ByteArray) (w : World) (hLd : Laid w) (h : table_Cells.f a0 = some r) :
    Calls Tryd.prog 13 #[.string a0] w fun e w' => ∃ v0_, e = .returned v0_ ∧ Kd.R Kd.string 9 w' w.heap.size (fun _ => True) v0_ r ∧ Below w.heap.size w w' := by
  unfold table_Cells.f at h
  split at h
  · rename_i hc
    obtain rfl := Option.some.inj h
    exact cells_walk a0 w hLd hc
  · cases h
/-- strings.Join of what is read. -/
def strings_Join.f (l0 : List ByteArray) (a1 : ByteArray) : Option ByteArray := if l0.length ≤ 1048576 ∧ (Lib.join (l0.map (·.data.toList)) a1.data.toList).length ≤ 140737488355328 then some ⟨(Lib.join (l0.map (·.data.toList)) a1.data.toList).toArray⟩ else none
theorem strings_Join.calls (A0 : Option Addr) (c0 : Nat) (l0 : List ByteArray) (a1 : ByteArray) (r : ByteArray) (w : World) (hr0 : Kd.C Kd.string w A0 l0.length l0) (hc0 : l0.length ≤ c0) (h : strings_Join.f l0 a1 = some r) :
    Calls Tryd.prog 36 #[.slice A0 l0.length c0, .string a1] w fun e w' => e = .returned (.string r) ∧ Below w.heap.size w w' := by
  unfold strings_Join.f at h
  split at h
  · rename_i hc
    obtain rfl := Option.some.inj h
    rcases Nat.eq_zero_or_pos l0.length with h0 | h0
    · obtain rfl := List.length_eq_zero_iff.1 h0
      refine (Tryd.strings_Join_none A0 c0 a1 w).mono ?_
      rintro e w' ⟨rfl, rfl⟩
      exact ⟨rfl, Below.refl _ _⟩
    · obtain ⟨ad, rfl, h1⟩ := Kd.at_string hr0 0 (by omega) (by omega)
      have hsp : ad.spot = none ∧ ad.block < w.heap.size := by
        have h2 : w.cell? ad ≠ none := by
          intro e
          have e2 : ad.add (0 : Int).toNat = ad := rfl
          rw [e2, e] at h1
          cases h1
        unfold World.cell? at h2
        cases hq : w.heap[ad.block]? with
        | none => rw [hq] at h2; exact absurd rfl h2
        | some ob =>
          refine ⟨?_, (Array.getElem?_eq_some_iff.1 hq).1⟩
          rw [hq] at h2
          cases ob <;> first | exact absurd rfl h2 | skip
          cases hs : ad.spot with
          | none => rfl
          | some y => simp [hs] at h2
      obtain ⟨bk, o, q⟩ := ad
      obtain rfl : q = none := hsp.1
      refine Tryd.strings_Join bk o c0 l0 a1 w (fun j x hj => ?_) hsp.2 (by omega) hc0 hc.2
      have hjl : j < l0.length := (List.getElem?_eq_some_iff.1 hj).1
      obtain ⟨ad2, e2, h3⟩ := Kd.at_string hr0 (j : Int) (by omega) (by omega)
      cases e2
      rw [getD_at l0 j hjl, Int.toNat_natCast] at h3
      rw [List.getElem?_eq_getElem hjl] at hj
      cases hj
      rw [← h3]
      unfold Addr.add
      split
      · rename_i e0
        subst e0
        rfl
      · rfl
  · cases h
end Go.Proofs.YthbadcdiagcfkaaDoor.PA

namespace Go.Proofs.YthbadcdiagcfkaaDoor.PA
open Go.RowKit Go.Proofs.YthbadcdiagcfkaaDoorW.PrintWords Go.Proofs.YthbadcdiagcfkaaDoorW.PrintLast Go.Proofs.YthbadcdiagcfkaaDoorW.PrintMore
attribute [local go_sem] max2_int min2_int max_two min_two max_three min_three max_four min_four   -- for this text's walks alone
set_option linter.unusedVariables false
set_option linter.unusedSimpArgs false






/-! ### table_align: function 23 -/
mutual
def table_align.j0 : Nat → Bool → Bool → Bool → Option (Int × Bool)
  | 0, _, _, _ => none
  | k + 1, x4, x5, x22 => if x22 = true then (some (0, false)) else (if x4 = true then (table_align.j1 k x4 x5 x5) else (table_align.j1 k x4 x5 false))
def table_align.j1 : Nat → Bool → Bool → Bool → Option (Int × Bool)
  | 0, _, _, _ => none
  | k + 1, x4, x5, x23 => if x23 = true then (some (3, true)) else (if x4 = true then (some (1, true)) else (if x5 = true then (some (2, true)) else (some (0, true))))
end
def table_align.f (k : Nat) (a0 : ByteArray) : Option (Int × Bool) := (strings_CutPrefix.f a0 (⟨#[58]⟩ : ByteArray)).bind fun bt101 => ((strings_CutSuffix.f bt101.1 (⟨#[58]⟩ : ByteArray)).bind fun bt103 => (if bt103.1.toList = ([] : List UInt8) then (table_align.j0 k bt101.2 bt103.2 true) else ((strings_Trim.f bt103.1 (⟨#[45]⟩ : ByteArray)).bind fun t105 => (table_align.j0 k bt101.2 bt103.2 (t105.toList != ([] : List UInt8))))))
theorem table_align.mono_l : ∀ k, (∀ y0 y1 y2, LeO (table_align.j0 k y0 y1 y2) (table_align.j0 (k + 1) y0 y1 y2)) ∧ (∀ y0 y1 y2, LeO (table_align.j1 k y0 y1 y2) (table_align.j1 (k + 1) y0 y1 y2))
  | 0 => ⟨fun _ _ _ r h => by simp [table_align.j0] at h, fun _ _ _ r h => by simp [table_align.j1] at h⟩
  | k + 1 => by
    obtain ⟨ih0, ih1⟩ := table_align.mono_l k
    refine ⟨?_, ?_⟩
    · intro y0 y1 y2
      unfold table_align.j0
      repeat' first
      | (with_reducible exact ih0 _ _ _)
      | (with_reducible exact ih1 _ _ _)
      | (with_reducible exact LeO.refl _)
      | (with_reducible exact LeO.none _)
      | (with_reducible refine LeO.ite ?_ ?_)
      | (with_reducible refine LeO.bind ?_ (fun _ => ?_))
      | exact ih0 _ _ _
      | exact ih1 _ _ _
      | exact LeO.none _
      | refine LeO.ite ?_ ?_
      | refine LeO.bind ?_ (fun _ => ?_)
    · intro y0 y1 y2
      unfold table_align.j1
      repeat' first
      | (with_reducible exact ih0 _ _ _)
      | (with_reducible exact ih1 _ _ _)
      | (with_reducible exact LeO.refl _)
      | (with_reducible exact LeO.none _)
      | (with_reducible refine LeO.ite ?_ ?_)
      | (with_reducible refine LeO.bind ?_ (fun _ => ?_))
      | exact ih0 _ _ _
      | exact ih1 _ _ _
      | exact LeO.none _
      | refine LeO.ite ?_ ?_
      | refine LeO.bind ?_ (fun _ => ?_)
theorem table_align.mono : ∀ a0 k, LeO (table_align.f k a0) (table_align.f (k + 1) a0) := by
  intro a0 k
  obtain ⟨ih0, ih1⟩ := table_align.mono_l k
  unfold table_align.f
  repeat' first
      | (with_reducible exact ih0 _ _ _)
      | (with_reducible exact ih1 _ _ _)
      | (with_reducible exact LeO.refl _)
      | (with_reducible exact LeO.none _)
      | (with_reducible refine LeO.ite ?_ ?_)
      | (with_reducible refine LeO.bind ?_ (fun _ => ?_))
      | exact ih0 _ _ _
      | exact ih1 _ _ _
      | exact LeO.none _
      | refine LeO.ite ?_ ?_
      | refine LeO.bind ?_ (fun _ => ?_)
set_option maxHeartbeats 8000000 in
set_option maxRecDepth 100000 in
theorem table_align.calls (k : Nat) (a0 : ByteArray) (r1 : Int) (r2 : Bool) (w : World) (h : table_align.f k a0 = some (r1, r2)) :
    Calls Tryd.prog 23 #[.string a0] w fun e w' => e = .returned (.tuple #[.int .i64 r1, .bool r2]) ∧ Below w.heap.size w w' := by
  have HB := Aside0.mk (Below.refl w.heap.size w)
  have H : ((strings_CutPrefix.f a0 (⟨#[58]⟩ : ByteArray)).bind fun bt101 => ((strings_CutSuffix.f bt101.1 (⟨#[58]⟩ : ByteArray)).bind fun bt103 => (if bt103.1.toList = ([] : List UInt8) then (table_align.j0 k bt101.2 bt103.2 true) else ((strings_Trim.f bt103.1 (⟨#[45]⟩ : ByteArray)).bind fun t105 => (table_align.j0 k bt101.2 bt103.2 (t105.toList != ([] : List UInt8))))))) = some (r1, r2) := h
  clear h
  replace H := Option.bind_eq_some_iff.mp H
  obtain ⟨⟨t101, t102⟩, A20, H⟩ := H
  replace H : ((strings_CutSuffix.f t101 (⟨#[58]⟩ : ByteArray)).bind fun bt103 => (if bt103.1.toList = ([] : List UInt8) then (table_align.j0 k t102 bt103.2 true) else ((strings_Trim.f bt103.1 (⟨#[45]⟩ : ByteArray)).bind fun t105 => (table_align.j0 k t102 bt103.2 (t105.toList != ([] : List UInt8)))))) = some (r1, r2) := H
  have A2 := Aside0.mk A20
  clear A20
  replace H := Option.bind_eq_some_iff.mp H
  obtain ⟨⟨t103, t104⟩, A30, H⟩ := H
  replace H : (if t103.toList = ([] : List UInt8) then (table_align.j0 k t102 t104 true) else ((strings_Trim.f t103 (⟨#[45]⟩ : ByteArray)).bind fun t105 => (table_align.j0 k t102 t104 (t105.toList != ([] : List UInt8))))) = some (r1, r2) := H
  have A3 := Aside0.mk A30
  clear A30
  have HC4 := Aside0.mk H
  clear H
  go_enter Tryd.func23, Tryd.ntmps23
  go_upto_region 3 with (first | ((with_reducible refine gate_callee (f := 41) rfl ?_); refine goesL_ (some 8) rfl rfl Tryd.func41 (by kernel_rfl) rfl #[.string a0, .string (⟨#[58]⟩ : ByteArray)] rfl (by (try simp only [List.map_toArray, List.map_cons, List.map_nil]); first | done | rfl | (simp only [List.length_drop, List.length_take]; rfl)) ?_; (with_reducible refine (strings_CutPrefix.calls a0 (⟨#[58]⟩ : ByteArray) t101 t102 _ A2.out).mono ?_); rintro e w' ⟨rfl, ⟨nd, rfl⟩⟩; refine ⟨_, rfl, ?_⟩) | ((with_reducible refine gate_callee (f := 42) rfl ?_); refine goesL_ (some 13) rfl rfl Tryd.func42 (by kernel_rfl) rfl #[.string t101, .string (⟨#[58]⟩ : ByteArray)] rfl (by (try simp only [List.map_toArray, List.map_cons, List.map_nil]); first | done | rfl | (simp only [List.length_drop, List.length_take]; rfl)) ?_; (with_reducible refine (strings_CutSuffix.calls t101 (⟨#[58]⟩ : ByteArray) t103 t104 _ A3.out).mono ?_); rintro e w' ⟨rfl, ⟨nd, rfl⟩⟩; refine ⟨_, rfl, ?_⟩))
  (try simp only [Act.put, List.setIfInBounds_toArray, List.set_cons_zero, List.set_cons_succ])
  go_cut [22] (fun v22 wc => ∃ (kq : Nat) (x22_3 : Bool), v22 = .bool x22_3 ∧ Aside0 (table_align.j0 kq t102 t104 x22_3 = some (r1, r2)) ∧ Aside0 (kq ≤ k) ∧ Aside0 (Below w.heap.size w wc))
  case first =>
    have H := HC4.out
    clear HC4
    by_cases c5 : t103.toList = ([] : List UInt8)
    · rw [if_pos c5] at H
      have c5b0 : (t103.toList == ([] : List UInt8)) = true := beq_iff_eq.mpr c5
      have c5b1 : (t103.toList != ([] : List UInt8)) = false := bne_eq_false_iff_eq.mpr c5
      clear c5
      (first | rw [c5b0] | (simp only [i64_w, i32_w]; rw [c5b0]) | skip)
      have H' := Aside0.mk H
      clear H
      go_wp2
      go_meet
      case rel => exact ⟨_, (true), (by first | rfl | (simp; done) | (simp [*]; done)), H', ⟨by first | omega | exact Nat.le_refl _⟩, ⟨by repeat (first | (with_reducible first | exact HB.out | apply below_alloc | apply pw_below_drewN | apply below_drew1) | exact HB.out)⟩⟩
    · rw [if_neg c5] at H
      have c5b0 : (t103.toList == ([] : List UInt8)) = false := beq_eq_false_iff_ne.mpr c5
      have c5b1 : (t103.toList != ([] : List UInt8)) = true := bne_iff_ne.mpr c5
      (first | rw [c5b0] | (simp only [i64_w, i32_w]; rw [c5b0]) | skip)
      replace H := Option.bind_eq_some_iff.mp H
      obtain ⟨t105, A60, H⟩ := H
      replace H : (table_align.j0 k t102 t104 (t105.toList != ([] : List UInt8))) = some (r1, r2) := H
      have A6 := Aside0.mk A60
      clear A60
      have H' := Aside0.mk H
      clear H
      go_wp2_with (first | (go_at_call 43; (with_reducible refine (strings_Trim.calls t103 (⟨#[45]⟩ : ByteArray) t105 _ A6.out).mono ?_); rintro e w7 ⟨rfl, hb⟩; have n0_ := Aside0.mk (below_step (by repeat (first | (with_reducible first | exact HB.out | apply below_alloc | apply pw_below_drewN | apply below_drew1) | exact HB.out)) hb); clear HB; have HB := n0_; clear n0_; (try clear hb); (try clear hb2); (try clear hk); (try clear hi)))
      go_meet
      case rel => exact ⟨_, ((t105.toList != ([] : List UInt8))), (by first | rfl | (refine congrArg Value.bool ?_; cases hq_ : t105.toList <;> rfl) | (simp; done) | (simp [*]; done)), H', ⟨by first | omega | exact Nat.le_refl _⟩, ⟨by repeat (first | (with_reducible first | exact HB.out | apply below_alloc | apply pw_below_drewN | apply below_drew1) | exact HB.out)⟩⟩
  case rest =>
    clear HC4
    try clear c2
    try clear p2
    try clear c4
    try clear c5
    try clear c5b0
    try clear c5b1
    obtain ⟨kq, x22_3, rfl, HA, HJ3, HB⟩ := hcut
    cases kq with
    | zero => exact absurd HA.out (by simp [table_align.j0])
    | succ kj3 =>
      have H := HA.out
      clear HA
      simp only [table_align.j0] at H
      by_cases c8 : x22_3 = true
      · subst c8
        have H1 : (some (0, false)) = some (r1, r2) := by rw [if_pos rfl] at H; exact H
        clear H
        have H := H1
        clear H1
        simp only [Option.some.injEq, Prod.mk.injEq] at H
        obtain ⟨rfl, rfl⟩ := H
        go_wp2
        go_ret2
        exact ⟨by first | rfl | exact retNe _ | (simp [errW_none, errW_some] <;> rfl) | (simp [*, errW_none, errW_some] <;> rfl), by repeat (first | (with_reducible first | exact HB.out | apply below_alloc | apply pw_below_drewN | apply below_drew1) | exact HB.out)⟩
      · replace c8 := Bool.eq_false_iff.mpr c8
        subst c8
        have H1 : (if t102 = true then (table_align.j1 kj3 t102 t104 t104) else (table_align.j1 kj3 t102 t104 false)) = some (r1, r2) := by rw [if_neg (show ¬ (false = true) by decide)] at H; exact H
        clear H
        have H := H1
        clear H1
        have HC9 := Aside0.mk H
        clear H
        go_upto_region 5 with (fail)
        go_cut [23] (fun v23 wc => ∃ (kq : Nat) (x23_8 : Bool), v23 = .bool x23_8 ∧ Aside0 (table_align.j1 kq t102 t104 x23_8 = some (r1, r2)) ∧ Aside0 (kq ≤ kj3) ∧ Aside0 (Below w.heap.size w wc))
        case first =>
          have H := HC9.out
          clear HC9
          by_cases c10 : t102 = true
          · subst c10
            have H1 : (table_align.j1 kj3 true t104 t104) = some (r1, r2) := by rw [if_pos rfl] at H; exact H
            clear H
            have H := H1
            clear H1
            have H' := Aside0.mk H
            clear H
            go_wp2
            go_meet
            case rel => exact ⟨_, (t104), (by first | rfl | (simp; done) | (simp [*]; done)), H', ⟨by have := HJ3.out; first | omega | exact Nat.le_refl _⟩, ⟨by repeat (first | (with_reducible first | exact HB.out | apply below_alloc | apply pw_below_drewN | apply below_drew1) | exact HB.out)⟩⟩
          · replace c10 := Bool.eq_false_iff.mpr c10
            subst c10
            have H1 : (table_align.j1 kj3 false t104 false) = some (r1, r2) := by rw [if_neg (show ¬ (false = true) by decide)] at H; exact H
            clear H
            have H := H1
            clear H1
            have H' := Aside0.mk H
            clear H
            go_wp2
            go_meet
            case rel => exact ⟨_, (false), (by first | rfl | (simp; done) | (simp [*]; done)), H', ⟨by have := HJ3.out; first | omega | exact Nat.le_refl _⟩, ⟨by repeat (first | (with_reducible first | exact HB.out | apply below_alloc | apply pw_below_drewN | apply below_drew1) | exact HB.out)⟩⟩
        case rest =>
          clear HC9
          try clear c1
          try clear c2
          try clear p2
          try clear c4
          try clear c5
          try clear c5b0
          try clear c5b1
          try clear c8
          try clear c10
          try clear p2
          obtain ⟨kq, x23_8, rfl, HA, HJ8, HB⟩ := hcut
          cases kq with
          | zero => exact absurd HA.out (by simp [table_align.j1])
          | succ kj8 =>
            have H := HA.out
            clear HA
            simp only [table_align.j1] at H
            by_cases c11 : x23_8 = true
            · subst c11
              have H1 : (some (3, true)) = some (r1, r2) := by rw [if_pos rfl] at H; exact H
              clear H
              have H := H1
              clear H1
              simp only [Option.some.injEq, Prod.mk.injEq] at H
              obtain ⟨rfl, rfl⟩ := H
              go_wp2
              go_ret2
              exact ⟨by first | rfl | exact retNe _ | (simp [errW_none, errW_some] <;> rfl) | (simp [*, errW_none, errW_some] <;> rfl), by repeat (first | (with_reducible first | exact HB.out | apply below_alloc | apply pw_below_drewN | apply below_drew1) | exact HB.out)⟩
            · replace c11 := Bool.eq_false_iff.mpr c11
              subst c11
              have H1 : (if t102 = true then (some (1, true)) else (if t104 = true then (some (2, true)) else (some (0, true)))) = some (r1, r2) := by rw [if_neg (show ¬ (false = true) by decide)] at H; exact H
              clear H
              have H := H1
              clear H1
              by_cases c12 : t102 = true
              · subst c12
                have H1 : (some (1, true)) = some (r1, r2) := by rw [if_pos rfl] at H; exact H
                clear H
                have H := H1
                clear H1
                simp only [Option.some.injEq, Prod.mk.injEq] at H
                obtain ⟨rfl, rfl⟩ := H
                go_wp2
                go_ret2
                exact ⟨by first | rfl | exact retNe _ | (simp [errW_none, errW_some] <;> rfl) | (simp [*, errW_none, errW_some] <;> rfl), by repeat (first | (with_reducible first | exact HB.out | apply below_alloc | apply pw_below_drewN | apply below_drew1) | exact HB.out)⟩
              · replace c12 := Bool.eq_false_iff.mpr c12
                subst c12
                have H1 : (if t104 = true then (some (2, true)) else (some (0, true))) = some (r1, r2) := by rw [if_neg (show ¬ (false = true) by decide)] at H; exact H
                clear H
                have H := H1
                clear H1
                by_cases c13 : t104 = true
                · subst c13
                  have H1 : (some (2, true)) = some (r1, r2) := by rw [if_pos rfl] at H; exact H
                  clear H
                  have H := H1
                  clear H1
                  simp only [Option.some.injEq, Prod.mk.injEq] at H
                  obtain ⟨rfl, rfl⟩ := H
                  go_wp2
                  go_ret2
                  exact ⟨by first | rfl | exact retNe _ | (simp [errW_none, errW_some] <;> rfl) | (simp [*, errW_none, errW_some] <;> rfl), by repeat (first | (with_reducible first | exact HB.out | apply below_alloc | apply pw_below_drewN | apply below_drew1) | exact HB.out)⟩
                · replace c13 := Bool.eq_false_iff.mpr c13
                  subst c13
                  have H1 : (some (0, true)) = some (r1, r2) := by rw [if_neg (show ¬ (false = true) by decide)] at H; exact H
                  clear H
                  have H := H1
                  clear H1
                  simp only [Option.some.injEq, Prod.mk.injEq] at H
                  obtain ⟨rfl, rfl⟩ := H
                  go_wp2
                  go_ret2
                  exact ⟨by first | rfl | exact retNe _ | (simp [errW_none, errW_some] <;> rfl) | (simp [*, errW_none, errW_some] <;> rfl), by repeat (first | (with_reducible first | exact HB.out | apply below_alloc | apply pw_below_drewN | apply below_drew1) | exact HB.out)⟩

/-! ### table_Aligns: function 10 -/
def table_Aligns.l0 : Nat → List Int → List ByteArray → Int → Int → Option (List Int × Bool)
  | 0, _, _, _, _ => none
  | k + 1, x4, x13, x14, x15 => if x15 < x14 then (if 0 ≤ x15 then (if x15 < (x13.length : Int) then ((table_align.f k (rdOf ByteArray.empty x13 x15)).bind fun bt111 => (if bt111.2 = true then (if x4.length < 17592186044416 then (table_Aligns.l0 k (x4 ++ [bt111.1]) x13 x14 (wrap64 (x15 + 1))) else (none)) else (some (([] : List Int), false)))) else (none)) else (none)) else (some (x4, true))
def table_Aligns.f (k : Nat) (a0 : ByteArray) : Option (List Int × Bool) := (strings_Contains.f a0 (⟨#[124]⟩ : ByteArray)).bind fun t106 => (if t106 = true then ((table_Cells.f a0).bind fun t107 => (table_Aligns.l0 k ([] : List Int) t107 (t107.length : Int) 0)) else (some (([] : List Int), false)))
theorem table_Aligns.mono_l : ∀ k, (∀ y0 y1 y2 y3, LeO (table_Aligns.l0 k y0 y1 y2 y3) (table_Aligns.l0 (k + 1) y0 y1 y2 y3))
  | 0 => fun _ _ _ _ r h => by simp [table_Aligns.l0] at h
  | k + 1 => by
    have ih0 := table_Aligns.mono_l k
    · intro y0 y1 y2 y3
      unfold table_Aligns.l0
      repeat' first
      | (with_reducible exact ih0 _ _ _ _)
      | (with_reducible exact table_align.mono _ _)
      | (with_reducible exact LeO.refl _)
      | (with_reducible exact LeO.none _)
      | (with_reducible refine LeO.ite ?_ ?_)
      | (with_reducible refine LeO.bind ?_ (fun _ => ?_))
      | exact ih0 _ _ _ _
      | exact table_align.mono _ _
      | exact LeO.none _
      | refine LeO.ite ?_ ?_
      | refine LeO.bind ?_ (fun _ => ?_)
theorem table_Aligns.mono : ∀ a0 k, LeO (table_Aligns.f k a0) (table_Aligns.f (k + 1) a0) := by
  intro a0 k
  have ih0 := table_Aligns.mono_l k
  unfold table_Aligns.f
  repeat' first
      | (with_reducible exact ih0 _ _ _ _)
      | (with_reducible exact table_align.mono _ _)
      | (with_reducible exact LeO.refl _)
      | (with_reducible exact LeO.none _)
      | (with_reducible refine LeO.ite ?_ ?_)
      | (with_reducible refine LeO.bind ?_ (fun _ => ?_))
      | exact ih0 _ _ _ _
      | exact table_align.mono _ _
      | exact LeO.none _
      | refine LeO.ite ?_ ?_
      | refine LeO.bind ?_ (fun _ => ?_)
set_option maxHeartbeats 8000000 in
set_option maxRecDepth 100000 in
theorem table_Aligns.calls (k : Nat) (a0 : ByteArray) (r1 : List Int) (r2 : Bool) (w : World) (hLd : Laid w) (h : table_Aligns.f k a0 = some (r1, r2)) :
    Calls Tryd.prog 10 #[.string a0] w fun e w' => ∃ v0_ : Value, e = .returned (.tuple #[v0_, .bool r2]) ∧ Kd.R (Kd.int .i64) 3 w' w.heap.size (fun _ => True) v0_ r1 ∧ Below w.heap.size w w' := by
  have HB := Aside0.mk (Below.refl w.heap.size w)
  have H : ((strings_Contains.f a0 (⟨#[124]⟩ : ByteArray)).bind fun t106 => (if t106 = true then ((table_Cells.f a0).bind fun t107 => (table_Aligns.l0 k ([] : List Int) t107 (t107.length : Int) 0)) else (some (([] : List Int), false)))) = some (r1, r2) := h
  clear h
  replace H := Option.bind_eq_some_iff.mp H
  obtain ⟨t106, A20, H⟩ := H
  replace H : (if t106 = true then ((table_Cells.f a0).bind fun t107 => (table_Aligns.l0 k ([] : List Int) t107 (t107.length : Int) 0)) else (some (([] : List Int), false))) = some (r1, r2) := H
  have A2 := Aside0.mk A20
  clear A20
  by_cases c3 : t106 = true
  · subst c3
    have H1 : ((table_Cells.f a0).bind fun t107 => (table_Aligns.l0 k ([] : List Int) t107 (t107.length : Int) 0)) = some (r1, r2) := by rw [if_pos rfl] at H; exact H
    clear H
    have H := H1
    clear H1
    replace H := Option.bind_eq_some_iff.mp H
    obtain ⟨t107, A40, H⟩ := H
    replace H : (table_Aligns.l0 k ([] : List Int) t107 (t107.length : Int) 0) = some (r1, r2) := H
    have A4 := Aside0.mk A40
    clear A40
    have H' := Aside0.mk H
    clear H
    go_enter Tryd.func10, Tryd.ntmps10
    go_wp2_with (first | ((with_reducible refine gate_callee (f := 22) rfl ?_); refine goesL_ (some 10) rfl rfl Tryd.func22 (by kernel_rfl) rfl #[.string a0, .string (⟨#[124]⟩ : ByteArray)] rfl (by (try simp only [List.map_toArray, List.map_cons, List.map_nil]); first | done | rfl | (simp only [List.length_drop, List.length_take]; rfl)) ?_; (with_reducible refine (strings_Contains.calls a0 (⟨#[124]⟩ : ByteArray) true _ A2.out).mono ?_); rintro e w' ⟨rfl, ⟨nd, rfl⟩⟩; refine ⟨_, rfl, ?_⟩) | ((with_reducible refine gate_callee (f := 13) rfl ?_); refine goesL_ (some 13) rfl rfl Tryd.func13 (by kernel_rfl) rfl #[.string a0] rfl (by (try simp only [List.map_toArray, List.map_cons, List.map_nil]); first | done | rfl | (simp only [List.length_drop, List.length_take]; rfl)) ?_; (with_reducible refine (table_Cells.calls a0 t107 _ ?side1 A4.out).mono ?_); (case side1 => exact Laid.go hLd (by repeat (first | (with_reducible first | exact HB.out | apply below_alloc | apply pw_below_drewN | apply below_drew1) | exact HB.out))); rintro e w5 ⟨v108, rfl, ho0, hb⟩; refine ⟨_, rfl, ?_⟩; have n0_ := Aside0.mk (Kd.R_lower ho0 (below_size (by repeat (first | (with_reducible first | exact HB.out | apply below_alloc | apply pw_below_drewN | apply below_drew1) | exact HB.out)))); have n1_ := Aside0.mk (below_step (by repeat (first | (with_reducible first | exact HB.out | apply below_alloc | apply pw_below_drewN | apply below_drew1) | exact HB.out)) hb); clear HB; have HO109 := n0_; have HB := n1_; clear n0_ n1_; (try clear hb); (try clear hb2); (try clear hk); (try clear hi); (try clear ho0); obtain ⟨Ao6, co6, eo6⟩ := Kd.R_slice HO109.out; subst eo6))
    go_loopg [4, 15] k (fun kq v4 v15 w' => ∃ (x4_1 : List Int) (x15_1 : Int), v15 = .int .i64 x15_1 ∧ Aside0 (table_Aligns.l0 kq x4_1 t107 (t107.length : Int) x15_1 = some (r1, r2)) ∧ Aside0 (kq ≤ k) ∧ Aside0 (Kd.R (Kd.int .i64) 3 w' w.heap.size (fun _ => True) v4 x4_1) ∧ Aside0 (Kd.R Kd.string 9 w' w.heap.size (fun _ => True) (.slice Ao6 t107.length co6) t107) ∧ Aside0 (Below w.heap.size w w'))
    case atStart => exact ⟨(([] : List Int)), (0), (by first | rfl | (simp; done) | (simp [*]; done)), H', ⟨Nat.le_refl _⟩, ⟨by first | exact Kd.R_nil _ _ _ _ _ | exact Kd.N_nil _ _ _ _ _ | exact Kd.V_nil _ _ _ _ _ | exact Kd.Q_nil _ _ _ _ _ | exact Kd.S_nil _ _ _ _ _⟩, ⟨by (with_reducible repeat (first | apply Kd.R_alloc | apply Kd.R_drewN | apply Kd.R_drew)); exact HO109.out⟩, ⟨by repeat (first | (with_reducible first | exact HB.out | apply below_alloc | apply pw_below_drewN | apply below_drew1) | exact HB.out)⟩⟩
    case round =>
      clear H'
      try clear c1
      try clear c2
      try clear p2
      try clear c3
      obtain ⟨x4_1, x15_1, rfl, HA, HK1, HO_4, HO_13, HB⟩ := hrel
      cases gk with
      | zero => exact absurd HA.out (by simp [table_Aligns.l0])
      | succ k1 =>
        have H := HA.out
        clear HA
        simp only [table_Aligns.l0] at H
        by_cases c7 : x15_1 < (t107.length : Int)
        · rw [if_pos c7] at H
          have c7b0 : decide (x15_1 < (t107.length : Int)) = true := decide_eq_true c7
          clear c7
          by_cases c8 : 0 ≤ x15_1
          · rw [if_pos c8] at H
            have c8b0 : decide (0 ≤ x15_1) = true := decide_eq_true c8
            clear c8
            by_cases c9 : x15_1 < (t107.length : Int)
            · rw [if_pos c9] at H
              have c9b0 : decide (x15_1 < (t107.length : Int)) = true := decide_eq_true c9
              clear c9
              replace H := Option.bind_eq_some_iff.mp H
              obtain ⟨⟨t111, t112⟩, A100, H⟩ := H
              replace H : (if t112 = true then (if x4_1.length < 17592186044416 then (table_Aligns.l0 k1 (x4_1 ++ [t111]) t107 (t107.length : Int) (wrap64 (x15_1 + 1))) else (none)) else (some (([] : List Int), false))) = some (r1, r2) := H
              have A10 := Aside0.mk A100
              clear A100
              by_cases c11 : t112 = true
              · subst c11
                have H1 : (if x4_1.length < 17592186044416 then (table_Aligns.l0 k1 (x4_1 ++ [t111]) t107 (t107.length : Int) (wrap64 (x15_1 + 1))) else (none)) = some (r1, r2) := by rw [if_pos rfl] at H; exact H
                clear H
                have H := H1
                clear H1
                by_cases c12 : x4_1.length < 17592186044416
                · rw [if_pos c12] at H
                  have LMc12 := Aside0.mk c12
                  clear c12
                  obtain ⟨y113, hy113⟩ : ∃ y_ : List Int, y_ = (x4_1 ++ [t111]) := ⟨_, rfl⟩
                  replace H : (table_Aligns.l0 k1 y113 t107 (t107.length : Int) (wrap64 (x15_1 + 1))) = some (r1, r2) := by first | (rw [hy113]; with_reducible exact H) | (have H2_ := (Option.bind_some _ _).symm.trans H; rw [hy113]; with_reducible exact H2_) | (have H2_ := (Option.bind_some _ _).symm.trans H; with_reducible exact H2_) | with_reducible exact H | (rw [hy113]; exact H) | exact H
                  have Ny113 := Aside0.mk hy113
                  clear hy113
                  have H' := Aside0.mk H
                  clear H
                  have p110 : 0 ≤ (x15_1 : Int) := of_decide_eq_true (by first | (with_reducible assumption) | assumption)
                  have q110 : x15_1 < (t107.length : Int) := of_decide_eq_true (by first | (with_reducible assumption) | assumption)
                  obtain ⟨ad110, e110, hx110_0⟩ := Kd.at_string (Kd.R_reads' HO_13.out).2.2 x15_1 p110 q110
                  cases e110
                  replace p110 := eq_true p110
                  replace q110 := eq_true q110
                  go_wp2_with (first | ((with_reducible refine gate_callee (f := 23) rfl ?_); refine goesL_ (some 21) rfl rfl Tryd.func23 (by kernel_rfl) rfl #[.string (rdOf ByteArray.empty t107 x15_1)] rfl (by (try simp only [List.map_toArray, List.map_cons, List.map_nil]); first | done | rfl | (simp only [List.length_drop, List.length_take]; rfl)) ?_; (with_reducible refine (table_align.calls k1 (rdOf ByteArray.empty t107 x15_1) t111 true _ A10.out).mono ?_); rintro e w13 ⟨rfl, hb⟩; refine ⟨_, rfl, ?_⟩; have n0_ := Aside0.mk (Kd.R_below (by (with_reducible repeat (first | apply Kd.R_alloc | apply Kd.R_drewN | apply Kd.R_drew)); exact HO_4.out) hb); have n1_ := Aside0.mk (Kd.R_below (by (with_reducible repeat (first | apply Kd.R_alloc | apply Kd.R_drewN | apply Kd.R_drew)); exact HO_13.out) hb); have n2_ := Aside0.mk (below_step (by repeat (first | (with_reducible first | exact HB.out | apply below_alloc | apply pw_below_drewN | apply below_drew1) | exact HB.out)) hb); clear HO_4; clear HO_13; clear HB; have HO_4 := n0_; have HO_13 := n1_; have HB := n2_; clear n0_ n1_ n2_; (try clear hb); (try clear hb2); (try clear hk); (try clear hi)) | ((with_reducible refine gate_builtin (b := .append) (xs := #[.tmp 26, .tmp 28]) rfl ?_); at_builtin; refine Kd.R_append (Kd.int .i64) (w0 := w) w.heap.size rfl (.tmp 26) (.tmp 28) 23 3 (.int .i64 0) 8 rfl Tryd.underlying23 info3 rfl (by decide) (by omega) u4 x4_1 t111 [.int .i64 t111] (fun _ => True) (fun _ => False) rfl rfl ?aP (fun _ hk => hk.elim) ?aF ?aO ?aB ?aS ?aL ?_; (case aP => exact rfl); (case aB => exact (by repeat (first | (with_reducible first | exact HB.out | apply below_alloc | apply pw_below_drewN | apply below_drew1) | exact HB.out))); (case aF => exact (fun _ _ => trivial)); (case aO => exact (by (with_reducible repeat (first | apply Kd.R_alloc | apply Kd.R_drewN | apply Kd.R_drew)); exact HO_4.out)); (case aS => exact (below_size (by repeat (first | (with_reducible first | exact HB.out | apply below_alloc | apply pw_below_drewN | apply below_drew1) | exact HB.out)))); (case aL => have := LMc12.out; omega); intro v114 w14 ho hb hg hat; rw [← Ny113.out] at ho; have n0_ := Aside0.mk (Kd.R_over' (by (with_reducible repeat (first | apply Kd.R_alloc | apply Kd.R_drewN | apply Kd.R_drew)); exact HO_13.out) (Kd.R_typed (by (with_reducible repeat (first | apply Kd.R_alloc | apply Kd.R_drewN | apply Kd.R_drew)); exact HO_4.out)) (by decide) hg); have n1_ := Aside0.mk (hb); have n2_ := Aside0.mk (ho); clear HO_13; clear HB; clear HO_4; have HO_13 := n0_; have HB := n1_; have HO115 := n2_; clear n0_ n1_ n2_; clear ho hb hg hat))
                  go_roundg k1
                  case measure => have := HK1.out; omega
                  case rel => exact ⟨(y113), (wrap64 (x15_1 + 1)), (by first | rfl | (simp; done) | (simp [*]; done)), H', ⟨by have := HK1.out; omega⟩, ⟨by (with_reducible repeat (first | apply Kd.R_alloc | apply Kd.R_drewN | apply Kd.R_drew)); exact HO115.out⟩, ⟨by (with_reducible repeat (first | apply Kd.R_alloc | apply Kd.R_drewN | apply Kd.R_drew)); exact HO_13.out⟩, ⟨by repeat (first | (with_reducible first | exact HB.out | apply below_alloc | apply pw_below_drewN | apply below_drew1) | exact HB.out)⟩⟩
                · rw [if_neg c12] at H
                  exact absurd H (by simp)
              · replace c11 := Bool.eq_false_iff.mpr c11
                subst c11
                have H1 : (some (([] : List Int), false)) = some (r1, r2) := by rw [if_neg (show ¬ (false = true) by decide)] at H; exact H
                clear H
                have H := H1
                clear H1
                simp only [Option.some.injEq, Prod.mk.injEq] at H
                obtain ⟨rfl, rfl⟩ := H
                have p110 : 0 ≤ (x15_1 : Int) := of_decide_eq_true (by first | (with_reducible assumption) | assumption)
                have q110 : x15_1 < (t107.length : Int) := of_decide_eq_true (by first | (with_reducible assumption) | assumption)
                obtain ⟨ad110, e110, hx110_0⟩ := Kd.at_string (Kd.R_reads' HO_13.out).2.2 x15_1 p110 q110
                cases e110
                replace p110 := eq_true p110
                replace q110 := eq_true q110
                go_wp2_with (first | ((with_reducible refine gate_callee (f := 23) rfl ?_); refine goesL_ (some 21) rfl rfl Tryd.func23 (by kernel_rfl) rfl #[.string (rdOf ByteArray.empty t107 x15_1)] rfl (by (try simp only [List.map_toArray, List.map_cons, List.map_nil]); first | done | rfl | (simp only [List.length_drop, List.length_take]; rfl)) ?_; (with_reducible refine (table_align.calls k1 (rdOf ByteArray.empty t107 x15_1) t111 false _ A10.out).mono ?_); rintro e w15 ⟨rfl, hb⟩; refine ⟨_, rfl, ?_⟩; have n0_ := Aside0.mk (Kd.R_below (by (with_reducible repeat (first | apply Kd.R_alloc | apply Kd.R_drewN | apply Kd.R_drew)); exact HO_4.out) hb); have n1_ := Aside0.mk (Kd.R_below (by (with_reducible repeat (first | apply Kd.R_alloc | apply Kd.R_drewN | apply Kd.R_drew)); exact HO_13.out) hb); have n2_ := Aside0.mk (below_step (by repeat (first | (with_reducible first | exact HB.out | apply below_alloc | apply pw_below_drewN | apply below_drew1) | exact HB.out)) hb); clear HO_4; clear HO_13; clear HB; have HO_4 := n0_; have HO_13 := n1_; have HB := n2_; clear n0_ n1_ n2_; (try clear hb); (try clear hb2); (try clear hk); (try clear hi)))
                go_ret2
                exact ⟨_, by first | rfl | (simp [errW_none, errW_some] <;> rfl) | (simp [*, errW_none, errW_some] <;> rfl), by first | exact Kd.R_nil _ _ _ _ _ | exact Kd.N_nil _ _ _ _ _ | exact Kd.V_nil _ _ _ _ _ | exact Kd.Q_nil _ _ _ _ _ | exact Kd.S_nil _ _ _ _ _, by repeat (first | (with_reducible first | exact HB.out | apply below_alloc | apply pw_below_drewN | apply below_drew1) | exact HB.out)⟩
            · rw [if_neg c9] at H
              exact absurd H (by simp)
          · rw [if_neg c8] at H
            exact absurd H (by simp)
        · rw [if_neg c7] at H
          have c7b0 : decide (x15_1 < (t107.length : Int)) = false := decide_eq_false c7
          clear c7
          simp only [Option.some.injEq, Prod.mk.injEq] at H
          obtain ⟨rfl, rfl⟩ := H
          go_wp2
          go_ret2
          exact ⟨_, by first | rfl | (simp [errW_none, errW_some] <;> rfl) | (simp [*, errW_none, errW_some] <;> rfl), by (with_reducible repeat (first | apply Kd.R_alloc | apply Kd.R_drewN | apply Kd.R_drew)); exact HO_4.out, by repeat (first | (with_reducible first | exact HB.out | apply below_alloc | apply pw_below_drewN | apply below_drew1) | exact HB.out)⟩
  · replace c3 := Bool.eq_false_iff.mpr c3
    subst c3
    have H1 : (some (([] : List Int), false)) = some (r1, r2) := by rw [if_neg (show ¬ (false = true) by decide)] at H; exact H
    clear H
    have H := H1
    clear H1
    simp only [Option.some.injEq, Prod.mk.injEq] at H
    obtain ⟨rfl, rfl⟩ := H
    go_enter Tryd.func10, Tryd.ntmps10
    go_wp2_with (first | ((with_reducible refine gate_callee (f := 22) rfl ?_); refine goesL_ (some 10) rfl rfl Tryd.func22 (by kernel_rfl) rfl #[.string a0, .string (⟨#[124]⟩ : ByteArray)] rfl (by (try simp only [List.map_toArray, List.map_cons, List.map_nil]); first | done | rfl | (simp only [List.length_drop, List.length_take]; rfl)) ?_; (with_reducible refine (strings_Contains.calls a0 (⟨#[124]⟩ : ByteArray) false _ A2.out).mono ?_); rintro e w' ⟨rfl, ⟨nd, rfl⟩⟩; refine ⟨_, rfl, ?_⟩))
    go_ret2
    exact ⟨_, by first | rfl | (simp [errW_none, errW_some] <;> rfl) | (simp [*, errW_none, errW_some] <;> rfl), by first | exact Kd.R_nil _ _ _ _ _ | exact Kd.N_nil _ _ _ _ _ | exact Kd.V_nil _ _ _ _ _ | exact Kd.Q_nil _ _ _ _ _ | exact Kd.S_nil _ _ _ _ _, by repeat (first | (with_reducible first | exact HB.out | apply below_alloc | apply pw_below_drewN | apply below_drew1) | exact HB.out)⟩

/-! ### incipitref15_SameRow: function 12 -/
def incipitref15_SameRow.l0 : Nat → List ByteArray → List ByteArray → Int → Option (Bool)
  | 0, _, _, _ => none
  | k + 1, x0, x1, x5 => if x5 < (x0.length : Int) then (if 0 ≤ x5 then (if x5 < (x1.length : Int) then (if (rdOf ByteArray.empty x0 x5).toList = (rdOf ByteArray.empty x1 x5).toList then (incipitref15_SameRow.l0 k x0 x1 (wrap64 (x5 + 1))) else (some false)) else (none)) else (none)) else (some true)
def incipitref15_SameRow.f (k : Nat) (l0 : List ByteArray) (l1 : List ByteArray) : Option (Bool) := if (l0.length : Int) = (l1.length : Int) then (incipitref15_SameRow.l0 k l0 l1 0) else (some false)
theorem incipitref15_SameRow.mono_l : ∀ k, (∀ y0 y1 y2, LeO (incipitref15_SameRow.l0 k y0 y1 y2) (incipitref15_SameRow.l0 (k + 1) y0 y1 y2))
  | 0 => fun _ _ _ r h => by simp [incipitref15_SameRow.l0] at h
  | k + 1 => by
    have ih0 := incipitref15_SameRow.mono_l k
    · intro y0 y1 y2
      unfold incipitref15_SameRow.l0
      repeat' first
      | (with_reducible exact ih0 _ _ _)
      | (with_reducible exact LeO.refl _)
      | (with_reducible exact LeO.none _)
      | (with_reducible refine LeO.ite ?_ ?_)
      | (with_reducible refine LeO.bind ?_ (fun _ => ?_))
      | exact ih0 _ _ _
      | exact LeO.none _
      | refine LeO.ite ?_ ?_
      | refine LeO.bind ?_ (fun _ => ?_)
theorem incipitref15_SameRow.mono : ∀ a0 a1 k, LeO (incipitref15_SameRow.f k a0 a1) (incipitref15_SameRow.f (k + 1) a0 a1) := by
  intro a0 a1 k
  have ih0 := incipitref15_SameRow.mono_l k
  unfold incipitref15_SameRow.f
  repeat' first
      | (with_reducible exact ih0 _ _ _)
      | (with_reducible exact LeO.refl _)
      | (with_reducible exact LeO.none _)
      | (with_reducible refine LeO.ite ?_ ?_)
      | (with_reducible refine LeO.bind ?_ (fun _ => ?_))
      | exact ih0 _ _ _
      | exact LeO.none _
      | refine LeO.ite ?_ ?_
      | refine LeO.bind ?_ (fun _ => ?_)
set_option maxHeartbeats 8000000 in
set_option maxRecDepth 100000 in
theorem incipitref15_SameRow.calls (k : Nat) (A0 : Option Addr) (c0 : Nat) (l0 : List ByteArray) (A1 : Option Addr) (c1 : Nat) (l1 : List ByteArray) (r : Bool) (w : World) (hr0 : Kd.C Kd.string w A0 l0.length l0) (hc0 : l0.length ≤ c0) (hr1 : Kd.C Kd.string w A1 l1.length l1) (hc1 : l1.length ≤ c1) (h : incipitref15_SameRow.f k l0 l1 = some r) :
    Calls Tryd.prog 12 #[.slice A0 l0.length c0, .slice A1 l1.length c1] w fun e w' => e = .returned (.bool r) ∧ Drawn0 w w' := by
  have HR0 := Aside0.mk hr0
  have HC0 := Aside0.mk hc0
  clear hr0 hc0
  have HR1 := Aside0.mk hr1
  have HC1 := Aside0.mk hc1
  clear hr1 hc1
  have H : (if (l0.length : Int) = (l1.length : Int) then (incipitref15_SameRow.l0 k l0 l1 0) else (some false)) = some r := h
  clear h
  by_cases c3 : (l0.length : Int) = (l1.length : Int)
  · rw [if_pos c3] at H
    have c3b0 : ((l0.length : Int) == (l1.length : Int)) = true := beq_iff_eq.mpr c3
    have c3b1 : ((l0.length : Int) != (l1.length : Int)) = false := bne_eq_false_iff_eq.mpr c3
    have c3b2 : (l0.length == l1.length) = true := by first | simpa using c3 | (simp at c3 ⊢; omega)
    clear c3
    have H' := Aside0.mk H
    clear H
    go_enter Tryd.func12, Tryd.ntmps12
    go_wp2
    repeat (go_quiet (fail); try go_wp2)
    go_loopg [5] k (fun kq v5 w' => ∃ (x5_1 : Int), v5 = .int .i64 x5_1 ∧ Aside0 (incipitref15_SameRow.l0 kq l0 l1 x5_1 = some r) ∧ Aside0 (kq ≤ k) ∧ Drawn0 w w')
    case atStart => exact ⟨(0), (by first | rfl | (simp; done) | (simp [*]; done)), H', ⟨Nat.le_refl _⟩, by repeat (first | exact Drawn0.refl _ | apply Drawn0.step)⟩
    case round =>
      clear H'
      try clear c1
      try clear p2
      try clear c3
      try clear c3b0
      try clear c3b1
      try clear c3b2
      obtain ⟨x5_1, rfl, HA, HK1, ⟨m1, rfl⟩⟩ := hrel
      cases gk with
      | zero => exact absurd HA.out (by simp [incipitref15_SameRow.l0])
      | succ k1 =>
        have H := HA.out
        clear HA
        simp only [incipitref15_SameRow.l0] at H
        by_cases c4 : x5_1 < (l0.length : Int)
        · rw [if_pos c4] at H
          have c4b0 : decide (x5_1 < (l0.length : Int)) = true := decide_eq_true c4
          clear c4
          by_cases c5 : 0 ≤ x5_1
          · rw [if_pos c5] at H
            have c5b0 : decide (0 ≤ x5_1) = true := decide_eq_true c5
            clear c5
            by_cases c6 : x5_1 < (l1.length : Int)
            · rw [if_pos c6] at H
              have c6b0 : decide (x5_1 < (l1.length : Int)) = true := decide_eq_true c6
              clear c6
              by_cases c7 : (rdOf ByteArray.empty l0 x5_1).toList = (rdOf ByteArray.empty l1 x5_1).toList
              · rw [if_pos c7] at H
                have c7b0 : ((rdOf ByteArray.empty l0 x5_1).toList == (rdOf ByteArray.empty l1 x5_1).toList) = true := beq_iff_eq.mpr c7
                have c7b1 : ((rdOf ByteArray.empty l0 x5_1).toList != (rdOf ByteArray.empty l1 x5_1).toList) = false := bne_eq_false_iff_eq.mpr c7
                clear c7
                have H' := Aside0.mk H
                clear H
                have p116 : 0 ≤ (x5_1 : Int) := of_decide_eq_true (by first | (with_reducible assumption) | assumption)
                have q116 : x5_1 < (l0.length : Int) := of_decide_eq_true (by first | (with_reducible assumption) | assumption)
                obtain ⟨ad116, e116, hx116_0⟩ := Kd.at_string HR0.out x5_1 p116 q116
                cases e116
                replace p116 := eq_true p116
                replace q116 := eq_true q116
                have p117 : 0 ≤ (x5_1 : Int) := of_decide_eq_true (by first | (with_reducible assumption) | assumption)
                have q117 : x5_1 < (l1.length : Int) := of_decide_eq_true (by first | (with_reducible assumption) | assumption)
                obtain ⟨ad117, e117, hx117_0⟩ := Kd.at_string HR1.out x5_1 p117 q117
                cases e117
                replace p117 := eq_true p117
                replace q117 := eq_true q117
                go_wp2
                repeat (go_quiet (fail); try go_wp2)
                go_roundg k1
                case measure => have := HK1.out; omega
                case rel => exact ⟨(wrap64 (x5_1 + 1)), (by first | rfl | (simp; done) | (simp [*]; done)), H', ⟨by have := HK1.out; omega⟩, by repeat (first | exact Drawn0.refl _ | apply Drawn0.step)⟩
              · rw [if_neg c7] at H
                have c7b0 : ((rdOf ByteArray.empty l0 x5_1).toList == (rdOf ByteArray.empty l1 x5_1).toList) = false := beq_eq_false_iff_ne.mpr c7
                have c7b1 : ((rdOf ByteArray.empty l0 x5_1).toList != (rdOf ByteArray.empty l1 x5_1).toList) = true := bne_iff_ne.mpr c7
                obtain rfl := Option.some.inj H
                have p116 : 0 ≤ (x5_1 : Int) := of_decide_eq_true (by first | (with_reducible assumption) | assumption)
                have q116 : x5_1 < (l0.length : Int) := of_decide_eq_true (by first | (with_reducible assumption) | assumption)
                obtain ⟨ad116, e116, hx116_0⟩ := Kd.at_string HR0.out x5_1 p116 q116
                cases e116
                replace p116 := eq_true p116
                replace q116 := eq_true q116
                have p117 : 0 ≤ (x5_1 : Int) := of_decide_eq_true (by first | (with_reducible assumption) | assumption)
                have q117 : x5_1 < (l1.length : Int) := of_decide_eq_true (by first | (with_reducible assumption) | assumption)
                obtain ⟨ad117, e117, hx117_0⟩ := Kd.at_string HR1.out x5_1 p117 q117
                cases e117
                replace p117 := eq_true p117
                replace q117 := eq_true q117
                go_wp2
                repeat (go_quiet (fail); try go_wp2)
                go_ret
                exact ⟨by first | rfl | exact retNe _ | (simp; done) | (simp [*]; done), by repeat (first | exact Drawn0.refl _ | apply Drawn0.step)⟩
            · rw [if_neg c6] at H
              exact absurd H (by simp)
          · rw [if_neg c5] at H
            exact absurd H (by simp)
        · rw [if_neg c4] at H
          have c4b0 : decide (x5_1 < (l0.length : Int)) = false := decide_eq_false c4
          clear c4
          obtain rfl := Option.some.inj H
          go_wp2
          repeat (go_quiet (fail); try go_wp2)
          go_ret
          exact ⟨by first | rfl | exact retNe _ | (simp; done) | (simp [*]; done), by repeat (first | exact Drawn0.refl _ | apply Drawn0.step)⟩
  · rw [if_neg c3] at H
    have c3b0 : ((l0.length : Int) == (l1.length : Int)) = false := beq_eq_false_iff_ne.mpr c3
    have c3b1 : ((l0.length : Int) != (l1.length : Int)) = true := bne_iff_ne.mpr c3
    have c3b2 : (l0.length == l1.length) = false := by first | simpa using c3 | (simp at c3 ⊢; omega)
    obtain rfl := Option.some.inj H
    go_enter Tryd.func12, Tryd.ntmps12
    go_wp2
    repeat (go_quiet (fail); try go_wp2)
    go_ret
    exact ⟨by first | rfl | exact retNe _ | (simp; done) | (simp [*]; done), by repeat (first | exact Drawn0.refl _ | apply Drawn0.step)⟩

/-! ### incipitref15_SameNumbers: function 15 -/
def incipitref15_SameNumbers.l0 : Nat → List Int → List Int → Int → Option (Bool)
  | 0, _, _, _ => none
  | k + 1, x0, x1, x5 => if x5 < (x0.length : Int) then (if 0 ≤ x5 then (if x5 < (x1.length : Int) then (if (rd x0 x5) = (rd x1 x5) then (incipitref15_SameNumbers.l0 k x0 x1 (wrap64 (x5 + 1))) else (some false)) else (none)) else (none)) else (some true)
def incipitref15_SameNumbers.f (k : Nat) (l0 : List Int) (l1 : List Int) : Option (Bool) := if (l0.length : Int) = (l1.length : Int) then (incipitref15_SameNumbers.l0 k l0 l1 0) else (some false)
theorem incipitref15_SameNumbers.mono_l : ∀ k, (∀ y0 y1 y2, LeO (incipitref15_SameNumbers.l0 k y0 y1 y2) (incipitref15_SameNumbers.l0 (k + 1) y0 y1 y2))
  | 0 => fun _ _ _ r h => by simp [incipitref15_SameNumbers.l0] at h
  | k + 1 => by
    have ih0 := incipitref15_SameNumbers.mono_l k
    · intro y0 y1 y2
      unfold incipitref15_SameNumbers.l0
      repeat' first
      | (with_reducible exact ih0 _ _ _)
      | (with_reducible exact LeO.refl _)
      | (with_reducible exact LeO.none _)
      | (with_reducible refine LeO.ite ?_ ?_)
      | (with_reducible refine LeO.bind ?_ (fun _ => ?_))
      | exact ih0 _ _ _
      | exact LeO.none _
      | refine LeO.ite ?_ ?_
      | refine LeO.bind ?_ (fun _ => ?_)
theorem incipitref15_SameNumbers.mono : ∀ a0 a1 k, LeO (incipitref15_SameNumbers.f k a0 a1) (incipitref15_SameNumbers.f (k + 1) a0 a1) := by
  intro a0 a1 k
  have ih0 := incipitref15_SameNumbers.mono_l k
  unfold incipitref15_SameNumbers.f
  repeat' first
      | (with_reducible exact ih0 _ _ _)
      | (with_reducible exact LeO.refl _)
      | (with_reducible exact LeO.none _)
      | (with_reducible refine LeO.ite ?_ ?_)
      | (with_reducible refine LeO.bind ?_ (fun _ => ?_))
      | exact ih0 _ _ _
      | exact LeO.none _
      | refine LeO.ite ?_ ?_
      | refine LeO.bind ?_ (fun _ => ?_)
set_option maxHeartbeats 8000000 in
set_option maxRecDepth 100000 in
theorem incipitref15_SameNumbers.calls (k : Nat) (A0 : Option Addr) (c0 : Nat) (l0 : List Int) (A1 : Option Addr) (c1 : Nat) (l1 : List Int) (r : Bool) (w : World) (hr0 : Kd.C (Kd.int .i64) w A0 l0.length l0) (hc0 : l0.length ≤ c0) (hr1 : Kd.C (Kd.int .i64) w A1 l1.length l1) (hc1 : l1.length ≤ c1) (h : incipitref15_SameNumbers.f k l0 l1 = some r) :
    Calls Tryd.prog 15 #[.slice A0 l0.length c0, .slice A1 l1.length c1] w fun e w' => e = .returned (.bool r) ∧ Drawn0 w w' := by
  have HR0 := Aside0.mk hr0
  have HC0 := Aside0.mk hc0
  clear hr0 hc0
  have HR1 := Aside0.mk hr1
  have HC1 := Aside0.mk hc1
  clear hr1 hc1
  have H : (if (l0.length : Int) = (l1.length : Int) then (incipitref15_SameNumbers.l0 k l0 l1 0) else (some false)) = some r := h
  clear h
  by_cases c3 : (l0.length : Int) = (l1.length : Int)
  · rw [if_pos c3] at H
    have c3b0 : ((l0.length : Int) == (l1.length : Int)) = true := beq_iff_eq.mpr c3
    have c3b1 : ((l0.length : Int) != (l1.length : Int)) = false := bne_eq_false_iff_eq.mpr c3
    have c3b2 : (l0.length == l1.length) = true := by first | simpa using c3 | (simp at c3 ⊢; omega)
    clear c3
    have H' := Aside0.mk H
    clear H
    go_enter Tryd.func15, Tryd.ntmps15
    go_wp2
    repeat (go_quiet (fail); try go_wp2)
    go_loopg [5] k (fun kq v5 w' => ∃ (x5_1 : Int), v5 = .int .i64 x5_1 ∧ Aside0 (incipitref15_SameNumbers.l0 kq l0 l1 x5_1 = some r) ∧ Aside0 (kq ≤ k) ∧ Drawn0 w w')
    case atStart => exact ⟨(0), (by first | rfl | (simp; done) | (simp [*]; done)), H', ⟨Nat.le_refl _⟩, by repeat (first | exact Drawn0.refl _ | apply Drawn0.step)⟩
    case round =>
      clear H'
      try clear c1
      try clear p2
      try clear c3
      try clear c3b0
      try clear c3b1
      try clear c3b2
      obtain ⟨x5_1, rfl, HA, HK1, ⟨m1, rfl⟩⟩ := hrel
      cases gk with
      | zero => exact absurd HA.out (by simp [incipitref15_SameNumbers.l0])
      | succ k1 =>
        have H := HA.out
        clear HA
        simp only [incipitref15_SameNumbers.l0] at H
        by_cases c4 : x5_1 < (l0.length : Int)
        · rw [if_pos c4] at H
          have c4b0 : decide (x5_1 < (l0.length : Int)) = true := decide_eq_true c4
          clear c4
          by_cases c5 : 0 ≤ x5_1
          · rw [if_pos c5] at H
            have c5b0 : decide (0 ≤ x5_1) = true := decide_eq_true c5
            clear c5
            by_cases c6 : x5_1 < (l1.length : Int)
            · rw [if_pos c6] at H
              have c6b0 : decide (x5_1 < (l1.length : Int)) = true := decide_eq_true c6
              clear c6
              by_cases c7 : (rd l0 x5_1) = (rd l1 x5_1)
              · rw [if_pos c7] at H
                have c7b0 : ((rd l0 x5_1) == (rd l1 x5_1)) = true := beq_iff_eq.mpr c7
                have c7b1 : ((rd l0 x5_1) != (rd l1 x5_1)) = false := bne_eq_false_iff_eq.mpr c7
                clear c7
                have H' := Aside0.mk H
                clear H
                have p118 : 0 ≤ (x5_1 : Int) := of_decide_eq_true (by first | (with_reducible assumption) | assumption)
                have q118 : x5_1 < (l0.length : Int) := of_decide_eq_true (by first | (with_reducible assumption) | assumption)
                obtain ⟨ad118, e118, hx118_0⟩ := Kd.at_int HR0.out x5_1 p118 q118
                cases e118
                replace p118 := eq_true p118
                replace q118 := eq_true q118
                have p119 : 0 ≤ (x5_1 : Int) := of_decide_eq_true (by first | (with_reducible assumption) | assumption)
                have q119 : x5_1 < (l1.length : Int) := of_decide_eq_true (by first | (with_reducible assumption) | assumption)
                obtain ⟨ad119, e119, hx119_0⟩ := Kd.at_int HR1.out x5_1 p119 q119
                cases e119
                replace p119 := eq_true p119
                replace q119 := eq_true q119
                go_wp2
                repeat (go_quiet (fail); try go_wp2)
                go_roundg k1
                case measure => have := HK1.out; omega
                case rel => exact ⟨(wrap64 (x5_1 + 1)), (by first | rfl | (simp; done) | (simp [*]; done)), H', ⟨by have := HK1.out; omega⟩, by repeat (first | exact Drawn0.refl _ | apply Drawn0.step)⟩
              · rw [if_neg c7] at H
                have c7b0 : ((rd l0 x5_1) == (rd l1 x5_1)) = false := beq_eq_false_iff_ne.mpr c7
                have c7b1 : ((rd l0 x5_1) != (rd l1 x5_1)) = true := bne_iff_ne.mpr c7
                obtain rfl := Option.some.inj H
                have p118 : 0 ≤ (x5_1 : Int) := of_decide_eq_true (by first | (with_reducible assumption) | assumption)
                have q118 : x5_1 < (l0.length : Int) := of_decide_eq_true (by first | (with_reducible assumption) | assumption)
                obtain ⟨ad118, e118, hx118_0⟩ := Kd.at_int HR0.out x5_1 p118 q118
                cases e118
                replace p118 := eq_true p118
                replace q118 := eq_true q118
                have p119 : 0 ≤ (x5_1 : Int) := of_decide_eq_true (by first | (with_reducible assumption) | assumption)
                have q119 : x5_1 < (l1.length : Int) := of_decide_eq_true (by first | (with_reducible assumption) | assumption)
                obtain ⟨ad119, e119, hx119_0⟩ := Kd.at_int HR1.out x5_1 p119 q119
                cases e119
                replace p119 := eq_true p119
                replace q119 := eq_true q119
                go_wp2
                repeat (go_quiet (fail); try go_wp2)
                go_ret
                exact ⟨by first | rfl | exact retNe _ | (simp; done) | (simp [*]; done), by repeat (first | exact Drawn0.refl _ | apply Drawn0.step)⟩
            · rw [if_neg c6] at H
              exact absurd H (by simp)
          · rw [if_neg c5] at H
            exact absurd H (by simp)
        · rw [if_neg c4] at H
          have c4b0 : decide (x5_1 < (l0.length : Int)) = false := decide_eq_false c4
          clear c4
          obtain rfl := Option.some.inj H
          go_wp2
          repeat (go_quiet (fail); try go_wp2)
          go_ret
          exact ⟨by first | rfl | exact retNe _ | (simp; done) | (simp [*]; done), by repeat (first | exact Drawn0.refl _ | apply Drawn0.step)⟩
  · rw [if_neg c3] at H
    have c3b0 : ((l0.length : Int) == (l1.length : Int)) = false := beq_eq_false_iff_ne.mpr c3
    have c3b1 : ((l0.length : Int) != (l1.length : Int)) = true := bne_iff_ne.mpr c3
    have c3b2 : (l0.length == l1.length) = false := by first | simpa using c3 | (simp at c3 ⊢; omega)
    obtain rfl := Option.some.inj H
    go_enter Tryd.func15, Tryd.ntmps15
    go_wp2
    repeat (go_quiet (fail); try go_wp2)
    go_ret
    exact ⟨by first | rfl | exact retNe _ | (simp; done) | (simp [*]; done), by repeat (first | exact Drawn0.refl _ | apply Drawn0.step)⟩


/-! ### table_begins: function 34 -/
def table_begins.f (k : Nat) (a0 : ByteArray) (a1 : ByteArray) : Option (List Int × Bool) := (table_Aligns.f k a1).bind fun bt120 => (if bt120.2 = true then ((strings_Contains.f a0 (⟨#[124]⟩ : ByteArray)).bind fun t124 => (if t124 = true then ((table_Cells.f a0).bind fun t125 => (some (bt120.1, ((t125.length : Int) == (bt120.1.length : Int))))) else (some (bt120.1, false)))) else (some (bt120.1, false)))
theorem table_begins.mono : ∀ a0 a1 k, LeO (table_begins.f k a0 a1) (table_begins.f (k + 1) a0 a1) := by
  intro a0 a1 k
  unfold table_begins.f
  repeat' first
      | (with_reducible exact table_Aligns.mono _ _)
      | (with_reducible exact LeO.refl _)
      | (with_reducible exact LeO.none _)
      | (with_reducible refine LeO.ite ?_ ?_)
      | (with_reducible refine LeO.bind ?_ (fun _ => ?_))
      | exact table_Aligns.mono _ _
      | exact LeO.none _
      | refine LeO.ite ?_ ?_
      | refine LeO.bind ?_ (fun _ => ?_)
set_option maxHeartbeats 8000000 in
set_option maxRecDepth 100000 in
theorem table_begins.calls (k : Nat) (a0 : ByteArray) (a1 : ByteArray) (r1 : List Int) (r2 : Bool) (w : World) (hLd : Laid w) (h : table_begins.f k a0 a1 = some (r1, r2)) :
    Calls Tryd.prog 34 #[.string a0, .string a1] w fun e w' => ∃ v0_ : Value, e = .returned (.tuple #[v0_, .bool r2]) ∧ Kd.R (Kd.int .i64) 3 w' w.heap.size (fun _ => True) v0_ r1 ∧ Below w.heap.size w w' := by
  have HB := Aside0.mk (Below.refl w.heap.size w)
  have H : ((table_Aligns.f k a1).bind fun bt120 => (if bt120.2 = true then ((strings_Contains.f a0 (⟨#[124]⟩ : ByteArray)).bind fun t124 => (if t124 = true then ((table_Cells.f a0).bind fun t125 => (some (bt120.1, ((t125.length : Int) == (bt120.1.length : Int))))) else (some (bt120.1, false)))) else (some (bt120.1, false)))) = some (r1, r2) := h
  clear h
  replace H := Option.bind_eq_some_iff.mp H
  obtain ⟨⟨t120, t121⟩, A30, H⟩ := H
  replace H : (if t121 = true then ((strings_Contains.f a0 (⟨#[124]⟩ : ByteArray)).bind fun t124 => (if t124 = true then ((table_Cells.f a0).bind fun t125 => (some (t120, ((t125.length : Int) == (t120.length : Int))))) else (some (t120, false)))) else (some (t120, false))) = some (r1, r2) := H
  have A3 := Aside0.mk A30
  clear A30
  by_cases c4 : t121 = true
  · subst c4
    have H1 : ((strings_Contains.f a0 (⟨#[124]⟩ : ByteArray)).bind fun t124 => (if t124 = true then ((table_Cells.f a0).bind fun t125 => (some (t120, ((t125.length : Int) == (t120.length : Int))))) else (some (t120, false)))) = some (r1, r2) := by rw [if_pos rfl] at H; exact H
    clear H
    have H := H1
    clear H1
    replace H := Option.bind_eq_some_iff.mp H
    obtain ⟨t124, A50, H⟩ := H
    replace H : (if t124 = true then ((table_Cells.f a0).bind fun t125 => (some (t120, ((t125.length : Int) == (t120.length : Int))))) else (some (t120, false))) = some (r1, r2) := H
    have A5 := Aside0.mk A50
    clear A50
    by_cases c6 : t124 = true
    · subst c6
      have H1 : ((table_Cells.f a0).bind fun t125 => (some (t120, ((t125.length : Int) == (t120.length : Int))))) = some (r1, r2) := by rw [if_pos rfl] at H; exact H
      clear H
      have H := H1
      clear H1
      replace H := Option.bind_eq_some_iff.mp H
      obtain ⟨t125, A70, H⟩ := H
      replace H : (some (t120, ((t125.length : Int) == (t120.length : Int)))) = some (r1, r2) := H
      have A7 := Aside0.mk A70
      clear A70
      simp only [Option.some.injEq, Prod.mk.injEq] at H
      obtain ⟨rfl, rfl⟩ := H
      go_enter Tryd.func34, Tryd.ntmps34
      go_wp2_with (first | ((with_reducible refine gate_callee (f := 10) rfl ?_); refine goesL_ (some 10) rfl rfl Tryd.func10 (by kernel_rfl) rfl #[.string a1] rfl (by (try simp only [List.map_toArray, List.map_cons, List.map_nil]); first | done | rfl | (simp only [List.length_drop, List.length_take]; rfl)) ?_; (with_reducible refine (table_Aligns.calls k a1 t120 true _ ?side1 A3.out).mono ?_); (case side1 => exact Laid.go hLd (by repeat (first | (with_reducible first | exact HB.out | apply below_alloc | apply pw_below_drewN | apply below_drew1) | exact HB.out))); rintro e w8 ⟨v122, rfl, ho0, hb⟩; refine ⟨_, rfl, ?_⟩; have n0_ := Aside0.mk (Kd.R_lower ho0 (below_size (by repeat (first | (with_reducible first | exact HB.out | apply below_alloc | apply pw_below_drewN | apply below_drew1) | exact HB.out)))); have n1_ := Aside0.mk (below_step (by repeat (first | (with_reducible first | exact HB.out | apply below_alloc | apply pw_below_drewN | apply below_drew1) | exact HB.out)) hb); clear HB; have HO123 := n0_; have HB := n1_; clear n0_ n1_; (try clear hb); (try clear hb2); (try clear hk); (try clear hi); (try clear ho0)) | (go_at_call 22; (with_reducible refine (strings_Contains.calls a0 (⟨#[124]⟩ : ByteArray) true _ A5.out).mono ?_); rintro e w' ⟨rfl, ⟨nd, rfl⟩⟩) | (go_at_call 13; (with_reducible refine (table_Cells.calls a0 t125 _ ?side1 A7.out).mono ?_); (case side1 => exact Laid.go hLd (by repeat (first | (with_reducible first | exact HB.out | apply below_alloc | apply pw_below_drewN | apply below_drew1) | exact HB.out))); rintro e w9 ⟨v126, rfl, ho0, hb⟩; have n0_ := Aside0.mk (Kd.R_below (by (with_reducible repeat (first | apply Kd.R_alloc | apply Kd.R_drewN | apply Kd.R_drew)); exact HO123.out) hb); have n1_ := Aside0.mk (Kd.R_lower ho0 (below_size (by repeat (first | (with_reducible first | exact HB.out | apply below_alloc | apply pw_below_drewN | apply below_drew1) | exact HB.out)))); have n2_ := Aside0.mk (below_step (by repeat (first | (with_reducible first | exact HB.out | apply below_alloc | apply pw_below_drewN | apply below_drew1) | exact HB.out)) hb); clear HO123; clear HB; have HO123 := n0_; have HO127 := n1_; have HB := n2_; clear n0_ n1_ n2_; (try clear hb); (try clear hb2); (try clear hk); (try clear hi); (try clear ho0); obtain ⟨Ao10, co10, eo10⟩ := Kd.R_slice HO127.out; subst eo10; obtain ⟨Ao11, co11, eo11⟩ := Kd.R_slice HO123.out; subst eo11))
      go_ret2
      exact ⟨_, by first | rfl | (simp [errW_none, errW_some] <;> rfl) | (simp [*, errW_none, errW_some] <;> rfl), by (with_reducible repeat (first | apply Kd.R_alloc | apply Kd.R_drewN | apply Kd.R_drew)); exact HO123.out, by repeat (first | (with_reducible first | exact HB.out | apply below_alloc | apply pw_below_drewN | apply below_drew1) | exact HB.out)⟩
    · replace c6 := Bool.eq_false_iff.mpr c6
      subst c6
      have H1 : (some (t120, false)) = some (r1, r2) := by rw [if_neg (show ¬ (false = true) by decide)] at H; exact H
      clear H
      have H := H1
      clear H1
      simp only [Option.some.injEq, Prod.mk.injEq] at H
      obtain ⟨rfl, rfl⟩ := H
      go_enter Tryd.func34, Tryd.ntmps34
      go_wp2_with (first | ((with_reducible refine gate_callee (f := 10) rfl ?_); refine goesL_ (some 10) rfl rfl Tryd.func10 (by kernel_rfl) rfl #[.string a1] rfl (by (try simp only [List.map_toArray, List.map_cons, List.map_nil]); first | done | rfl | (simp only [List.length_drop, List.length_take]; rfl)) ?_; (with_reducible refine (table_Aligns.calls k a1 t120 true _ ?side1 A3.out).mono ?_); (case side1 => exact Laid.go hLd (by repeat (first | (with_reducible first | exact HB.out | apply below_alloc | apply pw_below_drewN | apply below_drew1) | exact HB.out))); rintro e w12 ⟨v122, rfl, ho0, hb⟩; refine ⟨_, rfl, ?_⟩; have n0_ := Aside0.mk (Kd.R_lower ho0 (below_size (by repeat (first | (with_reducible first | exact HB.out | apply below_alloc | apply pw_below_drewN | apply below_drew1) | exact HB.out)))); have n1_ := Aside0.mk (below_step (by repeat (first | (with_reducible first | exact HB.out | apply below_alloc | apply pw_below_drewN | apply below_drew1) | exact HB.out)) hb); clear HB; have HO123 := n0_; have HB := n1_; clear n0_ n1_; (try clear hb); (try clear hb2); (try clear hk); (try clear hi); (try clear ho0)) | (go_at_call 22; (with_reducible refine (strings_Contains.calls a0 (⟨#[124]⟩ : ByteArray) false _ A5.out).mono ?_); rintro e w' ⟨rfl, ⟨nd, rfl⟩⟩))
      go_ret2
      exact ⟨_, by first | rfl | (simp [errW_none, errW_some] <;> rfl) | (simp [*, errW_none, errW_some] <;> rfl), by (with_reducible repeat (first | apply Kd.R_alloc | apply Kd.R_drewN | apply Kd.R_drew)); exact HO123.out, by repeat (first | (with_reducible first | exact HB.out | apply below_alloc | apply pw_below_drewN | apply below_drew1) | exact HB.out)⟩
  · replace c4 := Bool.eq_false_iff.mpr c4
    subst c4
    have H1 : (some (t120, false)) = some (r1, r2) := by rw [if_neg (show ¬ (false = true) by decide)] at H; exact H
    clear H
    have H := H1
    clear H1
    simp only [Option.some.injEq, Prod.mk.injEq] at H
    obtain ⟨rfl, rfl⟩ := H
    go_enter Tryd.func34, Tryd.ntmps34
    go_wp2_with (first | ((with_reducible refine gate_callee (f := 10) rfl ?_); refine goesL_ (some 10) rfl rfl Tryd.func10 (by kernel_rfl) rfl #[.string a1] rfl (by (try simp only [List.map_toArray, List.map_cons, List.map_nil]); first | done | rfl | (simp only [List.length_drop, List.length_take]; rfl)) ?_; (with_reducible refine (table_Aligns.calls k a1 t120 false _ ?side1 A3.out).mono ?_); (case side1 => exact Laid.go hLd (by repeat (first | (with_reducible first | exact HB.out | apply below_alloc | apply pw_below_drewN | apply below_drew1) | exact HB.out))); rintro e w13 ⟨v122, rfl, ho0, hb⟩; refine ⟨_, rfl, ?_⟩; have n0_ := Aside0.mk (Kd.R_lower ho0 (below_size (by repeat (first | (with_reducible first | exact HB.out | apply below_alloc | apply pw_below_drewN | apply below_drew1) | exact HB.out)))); have n1_ := Aside0.mk (below_step (by repeat (first | (with_reducible first | exact HB.out | apply below_alloc | apply pw_below_drewN | apply below_drew1) | exact HB.out)) hb); clear HB; have HO123 := n0_; have HB := n1_; clear n0_ n1_; (try clear hb); (try clear hb2); (try clear hk); (try clear hi); (try clear ho0)))
    go_ret2
    exact ⟨_, by first | rfl | (simp [errW_none, errW_some] <;> rfl) | (simp [*, errW_none, errW_some] <;> rfl), by (with_reducible repeat (first | apply Kd.R_alloc | apply Kd.R_drewN | apply Kd.R_drew)); exact HO123.out, by repeat (first | (with_reducible first | exact HB.out | apply below_alloc | apply pw_below_drewN | apply below_drew1) | exact HB.out)⟩



end Go.Proofs.YthbadcdiagcfkaaDoor.PA
