/-
  Texts of the proof of RenderBase, part 1 of 4: contracts and plain laws. Conditions: see each statement.
-/
import Derived.Test.YtchdkiakdnanhaaGreatDoorWWords
import Derived.Test.YtchdkiakdnanhaaGreatDoorWMore
import Derived.Lib.Strings
import Derived.Shelf.Unicode.DecodeSlow
import Derived.Test.YtchdkiakdnanhaaGreatDoorProg
import Derived.Below
import Derived.Deep.Draws
import Derived.Deep.AppendLies
import Derived.Maps.AppendAt
import Derived.OwnWalk
import Derived.Laws.BytesArg
import Derived.Laws.MakeOwn
import Derived.Laws.OwnMore
import Derived.Deep.OwnRows
import Derived.Tactics
import Derived.Lib.ConvBytes
import Derived.Laws.Slices
import Derived.WalkKit
import Derived.KernelRfl
import Derived.RowKit3
import Derived.Deep.LoopGhost
import Derived.Deep.QuietTactic
import Derived.BigQuiet
import Derived.WideLaws
import Derived.Deep.DeepCutAuto
import Derived.Deep.CutBlock
import Derived.Deep.RegionHeld3
import Derived.Laws.Rows
import Derived.Lib.AppendStr
import Derived.ArgAppend
import Derived.Laws.IdiomCopy
import Derived.OrdersHeld
import Derived.Laws.BitsLemmas
import Derived.RowKit
import Derived.Test.YtchdkiakdnanhaaGreatDoorWLast
import Derived.Test.YtchdkiakdnanhaaGreatDoorWTab
import Derived.Test.YtchdkiakdnanhaaGreatDoorWFour
import Derived.Test.YtchdkiakdnanhaaGreatDoorWQPut
import Derived.Test.YtchdkiakdnanhaaGreatDoorWApart
import Derived.Test.YtchdkiakdnanhaaGreatDoorWArr
import Derived.Test.YtchdkiakdnanhaaGreatDoorWZeros
import Derived.Test.YtchdkiakdnanhaaGreatDoorWFoot
import Derived.Test.YtchdkiakdnanhaaGreatDoorWKept
import Derived.Test.YtchdkiakdnanhaaGreatDoorWShare
import Derived.Test.YtchdkiakdnanhaaGreatDoorWN
import Derived.Test.YtchdkiakdnanhaaGreatDoorWFootNe
import Derived.Test.YtchdkiakdnanhaaGreatDoorWAt
import Derived.Test.YtchdkiakdnanhaaGreatDoorWEqStruct
import Derived.Test.YtchdkiakdnanhaaGreatDoorWRepsOne
import Derived.Test.YtchdkiakdnanhaaGreatDoorWInv
import Derived.Test.YtchdkiakdnanhaaGreatDoorWInvWords
import Derived.Test.YtchdkiakdnanhaaGreatDoorWGuard
import Derived.Test.YtchdkiakdnanhaaGreatDoorWNEv
import Derived.Shelf.Strings.Builder1
import Derived.Shelf.Strings.Builder2
import Derived.Shelf.Small.Utf8
import Derived.Shelf.Small.Strs
import Derived.Shelf.Strings.BuilderF
import Derived.Shelf.Strings.BuilderK
import Derived.Shelf.Utf8.RuneCount
import Derived.Shelf.Strconv.Itoa0
import Derived.Shelf.Strconv.Itoa1
import Derived.Shelf.LaysM
import Derived.Shelf.Strconv.Itoa2
import Derived.Shelf.Strconv.Itoa3
import Derived.Shelf.Strings.Search1
import Derived.Shelf.Strings.Search2
import Derived.Shelf.Strings.Search3
import Derived.Shelf.Strings.Cut
import Derived.Shelf.Strings.Count
import Derived.Shelf.Strings.Shaped
import Derived.Shelf.Strings.Prefix
import Derived.Shelf.Strings.Split
import Derived.Shelf.Strings.Runes
import Derived.Shelf.Strings.RuneCount
import Derived.Shelf.Strings.IndexAny
import Derived.Shelf.Strings.AsciiSet
import Derived.Shelf.Strings.IndexAnyAll
import Derived.Shelf.Lays
import Derived.Lib.Builder
import Derived.Lib.OthersKept
import Derived.Lib.UnsafeStr
import Derived.Shelf.RegionOpen
import Derived.Lib.ItoaNum
import Derived.Laws.IdiomStrings
import Derived.Lib.AtoiErrMem
import Derived.Sort.WalkA
import Derived.Lib.LaidTab
import Derived.Shelf.Vars
import Derived.BigCall
import Derived.Laws.Runes
import Derived.Outline
import Derived.IntWalk
import Derived.Lib.DecodeNEq
import Derived.Shelf.Strings.SlTrimAscii
import Derived.WalkLawsBesides
import Derived.Laws.Append
import Derived.Laws.NewBlocks
import Derived.Laws.Tables
import Derived.Laws.Cover3
import Derived.Laws.AppendOwn
import Derived.Laws.BytesString
import Derived.Laws.CopyOwn
set_option linter.unusedVariables false
set_option linter.unusedSimpArgs false
namespace Go.Proofs.YtchdkiakdnanhaaGreatDoor.Pl
open Go.RowKit Go.Proofs.YtchdkiakdnanhaaGreatDoorW.PrintWords

/-- A list of bytes as a text. -/
def B (l : List UInt8) : ByteArray := ⟨l.toArray⟩
theorem B_eta (a : ByteArray) : B a.data.toList = a := rfl
theorem B_data (l : List UInt8) : (B l).data.toList = l := by simp [B]
theorem B_toList (l : List UInt8) : (B l).toList = l := by rw [Lib.toList_data, B_data]
theorem B_size (l : List UInt8) : (B l).size = l.length := by show l.toArray.size = _; simp
theorem B_ext {a b : ByteArray} (h : a.data.toList = b.data.toList) : a = b := by rw [← B_eta a, ← B_eta b, h]
theorem B_inj {a b : List UInt8} (h : B a = B b) : a = b := by rw [← B_data a, ← B_data b, h]
theorem B_append (l m : List UInt8) : B l ++ B m = B (l ++ m) := by
  apply B_ext
  rw [B_data, ByteArray.data_append, Array.toList_append, B_data, B_data]
theorem B_extract (l : List UInt8) (i j : Nat) : (B l).extract i j = B ((l.drop i).take (j - i)) := by
  apply B_ext
  rw [B_data, Lib.extract_data, B_data]
theorem B_from (l : List UInt8) (i n : Nat) (h : n = l.length) : (B l).extract i n = B (l.drop i) := by
  rw [B_extract, List.take_of_length_le (by simp; omega)]
theorem B_to (l : List UInt8) (j : Nat) : (B l).extract 0 j = B (l.take j) := by rw [B_extract, List.drop_zero, Nat.sub_zero]
theorem B_bt (l : List UInt8) (i : Nat) (h : i < l.length) : bt (B l) (i : Int) = ((l[i]'h).toNat : Int) := by
  unfold bt
  have hs := B_size l
  rw [dif_pos (by rw [Int.toNat_natCast]; omega)]
  have : (B l)[(i : Int).toNat]'(by rw [Int.toNat_natCast]; omega) = l[i]'h := by
    show (B l).data[(i : Int).toNat] = _
    simp [B]
  rw [this]
theorem w64 {x : Int} (h0 : -9223372036854775808 ≤ x) (h1 : x ≤ 9223372036854775807) : wrap64 x = x := by unfold wrap64; omega
theorem u8_eq (x : UInt8) (n : Nat) (h : n < 256) : ((x.toNat : Int) = (n : Int)) ↔ x = UInt8.ofNat n := by
  constructor
  · intro e
    apply UInt8.toNat_inj.1
    rw [UInt8.toNat_ofNat']
    omega
  · intro e
    subst e
    rw [UInt8.toNat_ofNat']
    omega
theorem getD_B {l : List (List UInt8)} (i : Nat) (h : i < l.length) : rdOf ByteArray.empty (l.map B) (i : Int) = B (l[i]'h) := by
  unfold rdOf
  rw [Int.toNat_natCast, List.getD_eq_getElem?_getD, List.getElem?_map, List.getElem?_eq_getElem h]
  rfl
theorem getD_at (l : List ByteArray) (i : Nat) (h : i < l.length) : rdOf ByteArray.empty l (i : Int) = l[i]'h := by
  unfold rdOf
  rw [Int.toNat_natCast, List.getD_eq_getElem?_getD, List.getElem?_eq_getElem h]
  rfl
end Go.Proofs.YtchdkiakdnanhaaGreatDoor.Pl

namespace Go.Proofs.YtchdkiakdnanhaaGreatDoor.PA
open Go.RowKit Go.Proofs.YtchdkiakdnanhaaGreatDoorW.PrintWords Go.Proofs.YtchdkiakdnanhaaGreatDoorW.PrintLast Go.Proofs.YtchdkiakdnanhaaGreatDoorW.PrintMore
attribute [local go_sem] max2_int min2_int max_two min_two max_three min_three max_four min_four   -- for this text's walks alone
set_option linter.unusedVariables false
set_option linter.unusedSimpArgs false



def errW : Option Int → Value
  | none => .nilIface
  | some c => .iface 0 (.int .i64 c)
theorem errW_none : errW none = .nilIface := rfl
theorem errW_some (c : Int) : errW (some c) = .iface 0 (.int .i64 c) := rfl

-- the values' own types
/-! #### struct type 29, nested in itself -/
structure S29 where
  f0 : Int
  f1 : ByteArray
  f2 : ByteArray
  f3 : Int
  f4 : Int
  f5 : Bool
  f6 : (List S29)
def z29 : S29 := ⟨(0 : Int), (⟨#[]⟩ : ByteArray), (⟨#[]⟩ : ByteArray), (0 : Int), (0 : Int), false, ([] : List S29)⟩
def F29 (d : Kd S29) : Kd S29 := Kd.iso (Kd.pair (Kd.int .i64) (Kd.pair Kd.string (Kd.pair Kd.string (Kd.pair (Kd.int .i64) (Kd.pair (Kd.int .i64) (Kd.pair Kd.bool (Kd.slice 29 d))))))) (fun x : S29 => (x.f0, x.f1, x.f2, x.f3, x.f4, x.f5, x.f6))
theorem mono29 : Kd.Mono F29 := Kd.mono_iso _ (Kd.mono_pair (Kd.mono_const _) (Kd.mono_pair (Kd.mono_const _) (Kd.mono_pair (Kd.mono_const _) (Kd.mono_pair (Kd.mono_const _) (Kd.mono_pair (Kd.mono_const _) (Kd.mono_pair (Kd.mono_const _) (Kd.mono_slice 29 Kd.mono_id)))))))
theorem sub29 : Kd.Sub F29 [29] := Kd.sub_iso _ (Kd.sub_pair (Kd.sub_const _ (by decide)) (Kd.sub_pair (Kd.sub_const _ (by decide)) (Kd.sub_pair (Kd.sub_const _ (by decide)) (Kd.sub_pair (Kd.sub_const _ (by decide)) (Kd.sub_pair (Kd.sub_const _ (by decide)) (Kd.sub_pair (Kd.sub_const _ (by decide)) (Kd.sub_slice 29 (by decide) Kd.sub_id)))))))
theorem sz29 : ∀ n, (Kd.upto F29 7 [29] n).sz = 7 := Kd.upto_sz (fun _ => rfl)
def k29 : Kd S29 := Kd.fix F29 7 [29] sz29 (Kd.upto_E sub29)
theorem k29_open {w : World} {x : S29} {cs : List Value} (h : k29.K w x cs) : ∃ A6 c6, cs = [.int .i64 x.f0, .string x.f1, .string x.f2, .int .i64 x.f3, .int .i64 x.f4, .bool x.f5, .slice A6 x.f6.length c6] ∧ x.f6.length ≤ c6 ∧ k29.C w A6 x.f6.length x.f6 := by
  obtain ⟨n, h⟩ := h
  cases n with
  | zero => exact h.elim
  | succ n =>
    obtain ⟨_, _, rfl, rfl, ⟨_, _, rfl, rfl, ⟨_, _, rfl, rfl, ⟨_, _, rfl, rfl, ⟨_, _, rfl, rfl, ⟨_, _, rfl, rfl, ⟨A6, c6, rfl, l6, g6⟩⟩⟩⟩⟩⟩⟩ := h
    exact ⟨A6, c6, rfl, l6, Kd.fix_C g6⟩
theorem k29_openM {w : World} {base : Nat} {ok : Nat → Prop} {x : S29} {cs : List Value} (h : k29.M w base ok x cs) : ∃ v6, cs = [.int .i64 x.f0, .string x.f1, .string x.f2, .int .i64 x.f3, .int .i64 x.f4, .bool x.f5, v6] ∧ k29.R 29 w base ok v6 x.f6 := by
  obtain ⟨n, h⟩ := h
  cases n with
  | zero => exact h.elim
  | succ n =>
    obtain ⟨_, _, rfl, rfl, ⟨_, _, rfl, rfl, ⟨_, _, rfl, rfl, ⟨_, _, rfl, rfl, ⟨_, _, rfl, rfl, ⟨_, _, rfl, rfl, ⟨v6, rfl, g6⟩⟩⟩⟩⟩⟩⟩ := h
    exact ⟨v6, rfl, Kd.fix_R g6⟩
theorem k29_mk (w : World) (x : S29) {A6 : Option Addr} {c6 : Nat} (l6 : x.f6.length ≤ c6) (g6 : k29.C w A6 x.f6.length x.f6) : k29.K w x [.int .i64 x.f0, .string x.f1, .string x.f2, .int .i64 x.f3, .int .i64 x.f4, .bool x.f5, .slice A6 x.f6.length c6] := by
  obtain ⟨n6, q6⟩ := Kd.fix_C_back mono29 g6
  have r6 := Kd.upto_C_le mono29 sz29 (show n6 ≤ n6 by omega) q6
  exact ⟨n6 + 1, ⟨[.int .i64 x.f0], [.string x.f1, .string x.f2, .int .i64 x.f3, .int .i64 x.f4, .bool x.f5, .slice A6 x.f6.length c6], rfl, rfl, ⟨[.string x.f1], [.string x.f2, .int .i64 x.f3, .int .i64 x.f4, .bool x.f5, .slice A6 x.f6.length c6], rfl, rfl, ⟨[.string x.f2], [.int .i64 x.f3, .int .i64 x.f4, .bool x.f5, .slice A6 x.f6.length c6], rfl, rfl, ⟨[.int .i64 x.f3], [.int .i64 x.f4, .bool x.f5, .slice A6 x.f6.length c6], rfl, rfl, ⟨[.int .i64 x.f4], [.bool x.f5, .slice A6 x.f6.length c6], rfl, rfl, ⟨[.bool x.f5], [.slice A6 x.f6.length c6], rfl, rfl, ⟨A6, c6, rfl, l6, r6⟩⟩⟩⟩⟩⟩⟩⟩
theorem k29_mkM (w : World) (base : Nat) (ok : Nat → Prop) (x : S29) {v6 : Value} (g6 : k29.R 29 w base ok v6 x.f6) : k29.M w base ok x [.int .i64 x.f0, .string x.f1, .string x.f2, .int .i64 x.f3, .int .i64 x.f4, .bool x.f5, v6] := by
  obtain ⟨n6, q6⟩ := Kd.fix_R_back mono29 g6
  have r6 := Kd.upto_R_le mono29 sz29 (show n6 ≤ n6 by omega) q6
  exact ⟨n6 + 1, ⟨[.int .i64 x.f0], [.string x.f1, .string x.f2, .int .i64 x.f3, .int .i64 x.f4, .bool x.f5, v6], rfl, rfl, ⟨[.string x.f1], [.string x.f2, .int .i64 x.f3, .int .i64 x.f4, .bool x.f5, v6], rfl, rfl, ⟨[.string x.f2], [.int .i64 x.f3, .int .i64 x.f4, .bool x.f5, v6], rfl, rfl, ⟨[.int .i64 x.f3], [.int .i64 x.f4, .bool x.f5, v6], rfl, rfl, ⟨[.int .i64 x.f4], [.bool x.f5, v6], rfl, rfl, ⟨[.bool x.f5], [v6], rfl, rfl, ⟨v6, rfl, r6⟩⟩⟩⟩⟩⟩⟩⟩
def rd_T29 (xs : List S29) (i : Int) : S29 := xs.getD i.toNat z29
theorem at_T29 {w : World} {A : Option Addr} {n : Nat} {xs : List S29} (h : Kd.C k29 w A n xs) (i : Int) (h0 : 0 ≤ i) (h1 : i < n) : ∃ ad A6 c6, A = some ad ∧ w.cell? (ad.add (i.toNat * 7)) = some (.int .i64 (rd_T29 xs i).f0) ∧ w.cell? ⟨(ad.add (i.toNat * 7)).block, (ad.add (i.toNat * 7)).off + 1, none⟩ = some (.string (rd_T29 xs i).f1) ∧ w.cell? ⟨(ad.add (i.toNat * 7)).block, (ad.add (i.toNat * 7)).off + 2, none⟩ = some (.string (rd_T29 xs i).f2) ∧ w.cell? ⟨(ad.add (i.toNat * 7)).block, (ad.add (i.toNat * 7)).off + 3, none⟩ = some (.int .i64 (rd_T29 xs i).f3) ∧ w.cell? ⟨(ad.add (i.toNat * 7)).block, (ad.add (i.toNat * 7)).off + 4, none⟩ = some (.int .i64 (rd_T29 xs i).f4) ∧ w.cell? ⟨(ad.add (i.toNat * 7)).block, (ad.add (i.toNat * 7)).off + 5, none⟩ = some (.bool (rd_T29 xs i).f5) ∧ w.cell? ⟨(ad.add (i.toNat * 7)).block, (ad.add (i.toNat * 7)).off + 6, none⟩ = some (.slice A6 (rd_T29 xs i).f6.length c6) ∧ (rd_T29 xs i).f6.length ≤ c6 ∧ k29.C w A6 (rd_T29 xs i).f6.length (rd_T29 xs i).f6 := by
  obtain ⟨ad, c, e, _, hK, hc0⟩ := Kd.C_get h z29 i h0 h1
  have hc : ∀ j u, c[j]? = some u → w.cell? (ad.add (i.toNat * 7 + j)) = some u := hc0
  obtain ⟨A6, c6, rfl, l6, g6⟩ := k29_open hK
  exact ⟨ad, A6, c6, e, hc 0 _ rfl, by rw [← add_field _ _ 1 (by omega)]; exact hc 1 _ rfl, by rw [← add_field _ _ 2 (by omega)]; exact hc 2 _ rfl, by rw [← add_field _ _ 3 (by omega)]; exact hc 3 _ rfl, by rw [← add_field _ _ 4 (by omega)]; exact hc 4 _ rfl, by rw [← add_field _ _ 5 (by omega)]; exact hc 5 _ rfl, by rw [← add_field _ _ 6 (by omega)]; exact hc 6 _ rfl, l6, g6⟩

end Go.Proofs.YtchdkiakdnanhaaGreatDoor.PA

set_option linter.unusedVariables false
namespace Go.Proofs
open Go.Shelf
def Tryz.lays240_ren : Go.Shelf.Ren := ⟨fun | 240 => 31 | 276 => 49 | n => n, fun | 0 => 0 | 4 => 4 | 9 => 9 | 20 => 20 | 37 => 36 | 70 => 35 | 72 => 38 | 164 => 64 | n => n, fun | 1 => 0 | 17 => 1 | 18 => 2 | 19 => 3 | n => n⟩
theorem Tryz.lays240 : Go.Proofs.Lays.n240 Tryz.prog Tryz.lays240_ren := {
  mixed := by kernel_rfl,
  f240 := Tryz.func31.trans (congrArg some (by kernel_rfl)),
  f276 := Tryz.func49.trans (congrArg some (by kernel_rfl)),
  t0 := Tryz.underlying0,
  a0 := Tryz.isAgg0,
  z0 := Tryz.sizeOf0,
  v0 := Tryz.zeroValue0,
  t4 := Tryz.underlying4,
  a4 := Tryz.isAgg4,
  z4 := Tryz.sizeOf4,
  v4 := Tryz.zeroValue4,
  t9 := Tryz.underlying9,
  a9 := Tryz.isAgg9,
  z9 := Tryz.sizeOf9,
  v9 := Tryz.zeroValue9,
  t20 := Tryz.underlying20,
  a20 := Tryz.isAgg20,
  z20 := Tryz.sizeOf20,
  v20 := Tryz.zeroValue20,
  t70 := Tryz.underlying35,
  a70 := Tryz.isAgg35,
  z70 := Tryz.sizeOf35,
  v70 := Tryz.zeroValue35,
  t72 := Tryz.underlying38,
  a72 := Tryz.isAgg38,
  z72 := Tryz.sizeOf38,
  v72 := Tryz.zeroValue38,
  t164 := Tryz.underlying64,
  a164 := Tryz.isAgg64,
  z164 := Tryz.sizeOf64,
  v164 := Tryz.zeroValue64 }
theorem Tryz.Builder_X72_240 : Builder.X72 Tryz.prog Tryz.lays240_ren := {
  sizeBuilder := by kernel_rfl,
  liesBuilder := by kernel_rfl }
open Go.RowKit in
theorem Tryz.Builder_copyCheck (B b : Nat) (bs : List Value) (w : World) (h : Lib.IsBuilder 38 5 B b bs w) :
    Calls Tryz.prog 31 #[.pointer (some ⟨b, 0, none⟩)] w fun e w' => e = .returned (.tuple #[]) ∧ (Lib.BuilderAt 38 5 B b (.pointer (some ⟨b, 0, none⟩)) bs w' ∧ Below B w w') := Any.Builder_copyCheck Tryz.lays240 Tryz.Builder_X72_240 B b bs w h
def Tryz.lays167_ren : Go.Shelf.Ren := ⟨fun | 167 => 22 | 240 => 31 | 276 => 49 | n => n, fun | 0 => 0 | 4 => 4 | 5 => 5 | 9 => 9 | 20 => 20 | 37 => 36 | 70 => 35 | 72 => 38 | 75 => 42 | 80 => 45 | 164 => 64 | n => n, fun | 1 => 0 | 17 => 1 | 18 => 2 | 19 => 3 | n => n⟩
theorem Tryz.lays167 : Go.Proofs.Lays.n167 Tryz.prog Tryz.lays167_ren := {
  mixed := by kernel_rfl,
  f167 := Tryz.func22.trans (congrArg some (by kernel_rfl)),
  f240 := Tryz.func31.trans (congrArg some (by kernel_rfl)),
  f276 := Tryz.func49.trans (congrArg some (by kernel_rfl)),
  t0 := Tryz.underlying0,
  a0 := Tryz.isAgg0,
  z0 := Tryz.sizeOf0,
  v0 := Tryz.zeroValue0,
  t4 := Tryz.underlying4,
  a4 := Tryz.isAgg4,
  z4 := Tryz.sizeOf4,
  v4 := Tryz.zeroValue4,
  t5 := Tryz.underlying5,
  a5 := Tryz.isAgg5,
  z5 := Tryz.sizeOf5,
  v5 := Tryz.zeroValue5,
  t9 := Tryz.underlying9,
  a9 := Tryz.isAgg9,
  z9 := Tryz.sizeOf9,
  v9 := Tryz.zeroValue9,
  t20 := Tryz.underlying20,
  a20 := Tryz.isAgg20,
  z20 := Tryz.sizeOf20,
  v20 := Tryz.zeroValue20,
  t37 := Tryz.underlying36,
  a37 := Tryz.isAgg36,
  z37 := Tryz.sizeOf36,
  v37 := Tryz.zeroValue36,
  t70 := Tryz.underlying35,
  a70 := Tryz.isAgg35,
  z70 := Tryz.sizeOf35,
  v70 := Tryz.zeroValue35,
  t72 := Tryz.underlying38,
  a72 := Tryz.isAgg38,
  z72 := Tryz.sizeOf38,
  v72 := Tryz.zeroValue38,
  t75 := Tryz.underlying42,
  a75 := Tryz.isAgg42,
  z75 := Tryz.sizeOf42,
  v75 := Tryz.zeroValue42,
  t164 := Tryz.underlying64,
  a164 := Tryz.isAgg64,
  z164 := Tryz.sizeOf64,
  v164 := Tryz.zeroValue64 }
theorem Tryz.Builder_Extra_167 : Builder.Extra Tryz.prog Tryz.lays167_ren := {
  sizeBuilder := by kernel_rfl,
  liesBuilder := by kernel_rfl,
  t5 := Tryz.underlying5,
  a5 := Tryz.isAgg5,
  z5 := Tryz.sizeOf5,
  v5 := Tryz.zeroValue5,
  infoByte := by kernel_rfl,
  cellsByte := by kernel_rfl,
  sizeByte := by kernel_rfl,
  neB5 := by decide }
open Go.RowKit in
theorem Tryz.Builder_WriteByte (B b : Nat) (bs : List Value) (c : Int) (w : World) (h : Lib.IsBuilder 38 5 B b bs w) (hlen : bs.length + 1 ≤ 140737488355328) (hBw : B ≤ w.heap.size) :
    Calls Tryz.prog 22 #[.pointer (some ⟨b, 0, none⟩), .int .u8 c] w fun e w' => e = .returned .nilIface ∧ (Lib.BuilderAt 38 5 B b (.pointer (some ⟨b, 0, none⟩)) (bs ++ [.int .u8 c]) w' ∧ Below B w w') := Any.Builder_WriteByte Tryz.lays167 Tryz.Builder_Extra_167 B b bs c w h hlen hBw
def Tryz.lays166_ren : Go.Shelf.Ren := ⟨fun | 166 => 19 | 240 => 31 | 276 => 49 | n => n, fun | 0 => 0 | 3 => 3 | 4 => 4 | 5 => 5 | 9 => 9 | 20 => 20 | 37 => 36 | 70 => 35 | 72 => 38 | 75 => 42 | 80 => 45 | 164 => 64 | n => n, fun | 1 => 0 | 17 => 1 | 18 => 2 | 19 => 3 | n => n⟩
theorem Tryz.lays166 : Go.Proofs.Lays.n166 Tryz.prog Tryz.lays166_ren := {
  mixed := by kernel_rfl,
  f166 := Tryz.func19.trans (congrArg some (by kernel_rfl)),
  f240 := Tryz.func31.trans (congrArg some (by kernel_rfl)),
  f276 := Tryz.func49.trans (congrArg some (by kernel_rfl)),
  t0 := Tryz.underlying0,
  a0 := Tryz.isAgg0,
  z0 := Tryz.sizeOf0,
  v0 := Tryz.zeroValue0,
  t3 := Tryz.underlying3,
  a3 := Tryz.isAgg3,
  z3 := Tryz.sizeOf3,
  v3 := Tryz.zeroValue3,
  t4 := Tryz.underlying4,
  a4 := Tryz.isAgg4,
  z4 := Tryz.sizeOf4,
  v4 := Tryz.zeroValue4,
  t9 := Tryz.underlying9,
  a9 := Tryz.isAgg9,
  z9 := Tryz.sizeOf9,
  v9 := Tryz.zeroValue9,
  t20 := Tryz.underlying20,
  a20 := Tryz.isAgg20,
  z20 := Tryz.sizeOf20,
  v20 := Tryz.zeroValue20,
  t37 := Tryz.underlying36,
  a37 := Tryz.isAgg36,
  z37 := Tryz.sizeOf36,
  v37 := Tryz.zeroValue36,
  t70 := Tryz.underlying35,
  a70 := Tryz.isAgg35,
  z70 := Tryz.sizeOf35,
  v70 := Tryz.zeroValue35,
  t72 := Tryz.underlying38,
  a72 := Tryz.isAgg38,
  z72 := Tryz.sizeOf38,
  v72 := Tryz.zeroValue38,
  t75 := Tryz.underlying42,
  a75 := Tryz.isAgg42,
  z75 := Tryz.sizeOf42,
  v75 := Tryz.zeroValue42,
  t164 := Tryz.underlying64,
  a164 := Tryz.isAgg64,
  z164 := Tryz.sizeOf64,
  v164 := Tryz.zeroValue64 }
theorem Tryz.Builder_Extra_166 : Builder.Extra Tryz.prog Tryz.lays166_ren := {
  sizeBuilder := by kernel_rfl,
  liesBuilder := by kernel_rfl,
  t5 := Tryz.underlying5,
  a5 := Tryz.isAgg5,
  z5 := Tryz.sizeOf5,
  v5 := Tryz.zeroValue5,
  infoByte := by kernel_rfl,
  cellsByte := by kernel_rfl,
  sizeByte := by kernel_rfl,
  neB5 := by decide }
open Go.RowKit in
theorem Tryz.Builder_WriteString (B b : Nat) (bs : List Value) (s : ByteArray) (w : World) (h : Lib.IsBuilder 38 5 B b bs w) (hlen : bs.length + s.size ≤ 140737488355328) (hBw : B ≤ w.heap.size) :
    Calls Tryz.prog 19 #[.pointer (some ⟨b, 0, none⟩), .string s] w fun e w' => e = .returned (.tuple #[.int .i64 s.size, .nilIface]) ∧ (Lib.BuilderAt 38 5 B b (.pointer (some ⟨b, 0, none⟩)) (bs ++ Lib.strCells s) w' ∧ Below B w w') := Any.Builder_WriteString Tryz.lays166 Tryz.Builder_Extra_166 B b bs s w h hlen hBw
def Tryz.lays169_ren : Go.Shelf.Ren := ⟨fun | 169 => 20 | n => n, fun | 0 => 0 | 3 => 3 | 5 => 5 | 9 => 9 | 37 => 36 | 70 => 35 | 72 => 38 | 127 => 56 | n => n, fun | 1 => 0 | 17 => 1 | 18 => 2 | 19 => 3 | n => n⟩
theorem Tryz.lays169 : Go.Proofs.Lays.n169 Tryz.prog Tryz.lays169_ren := {
  mixed := by kernel_rfl,
  f169 := Tryz.func20.trans (congrArg some (by kernel_rfl)),
  t0 := Tryz.underlying0,
  a0 := Tryz.isAgg0,
  z0 := Tryz.sizeOf0,
  v0 := Tryz.zeroValue0,
  t3 := Tryz.underlying3,
  a3 := Tryz.isAgg3,
  z3 := Tryz.sizeOf3,
  v3 := Tryz.zeroValue3,
  t9 := Tryz.underlying9,
  a9 := Tryz.isAgg9,
  z9 := Tryz.sizeOf9,
  v9 := Tryz.zeroValue9,
  t37 := Tryz.underlying36,
  a37 := Tryz.isAgg36,
  z37 := Tryz.sizeOf36,
  v37 := Tryz.zeroValue36,
  t70 := Tryz.underlying35,
  a70 := Tryz.isAgg35,
  z70 := Tryz.sizeOf35,
  v70 := Tryz.zeroValue35,
  t72 := Tryz.underlying38,
  a72 := Tryz.isAgg38,
  z72 := Tryz.sizeOf38,
  v72 := Tryz.zeroValue38,
  t127 := Tryz.underlying56,
  a127 := Tryz.isAgg56,
  z127 := Tryz.sizeOf56,
  v127 := Tryz.zeroValue56 }
theorem Tryz.Builder_Extra_169 : Builder.Extra Tryz.prog Tryz.lays169_ren := {
  sizeBuilder := by kernel_rfl,
  liesBuilder := by kernel_rfl,
  t5 := Tryz.underlying5,
  a5 := Tryz.isAgg5,
  z5 := Tryz.sizeOf5,
  v5 := Tryz.zeroValue5,
  infoByte := by kernel_rfl,
  cellsByte := by kernel_rfl,
  sizeByte := by kernel_rfl,
  neB5 := by decide }
open Go.RowKit in
theorem Tryz.Builder_String (B b : Nat) (l : List UInt8) (w : World) (h : Lib.IsBuilder 38 5 B b (Lib.byteCells l) w) (h0 : l ≠ []) :
    Calls Tryz.prog 20 #[.pointer (some ⟨b, 0, none⟩)] w fun e w' => e = .returned (.string ⟨l.toArray⟩) ∧ Below B w w' := Any.Builder_String Tryz.lays169 Tryz.Builder_Extra_169 B b l w h h0
open Go.RowKit in
theorem Tryz.Builder_String_empty (B b : Nat) (w : World) (h : Lib.IsBuilder 38 5 B b [] w) (hBw : B ≤ w.heap.size) :
    Calls Tryz.prog 20 #[.pointer (some ⟨b, 0, none⟩)] w fun e w' => e = .returned (.string ⟨#[]⟩) ∧ Below B w w' := Any.Builder_String_empty Tryz.lays169 Tryz.Builder_Extra_169 B b w h hBw
open Go.RowKit in
theorem Tryz.Builder_String_any (B b : Nat) (l : List UInt8) (w : World) (h : Lib.IsBuilder 38 5 B b (Lib.byteCells l) w) (hBw : B ≤ w.heap.size) :
    Calls Tryz.prog 20 #[.pointer (some ⟨b, 0, none⟩)] w fun e w' => e = .returned (.string ⟨l.toArray⟩) ∧ Below B w w' := Any.Builder_String_any Tryz.lays169 Tryz.Builder_Extra_169 B b l w h hBw
def Tryz.lays241_ren : Go.Shelf.Ren := ⟨fun | 241 => 140 | 277 => 141 | n => n, fun | 0 => 0 | 3 => 3 | 5 => 5 | 37 => 36 | 70 => 35 | 72 => 38 | n => n, fun | 1 => 0 | 17 => 1 | 18 => 2 | 19 => 3 | n => n⟩
theorem Tryz.lays241 : Go.Proofs.Lays.n241 Tryz.prog Tryz.lays241_ren := {
  mixed := by kernel_rfl,
  f241 := Tryz.func140.trans (congrArg some (by kernel_rfl)),
  f277 := Tryz.func141.trans (congrArg some (by kernel_rfl)),
  t0 := Tryz.underlying0,
  a0 := Tryz.isAgg0,
  z0 := Tryz.sizeOf0,
  v0 := Tryz.zeroValue0,
  t3 := Tryz.underlying3,
  a3 := Tryz.isAgg3,
  z3 := Tryz.sizeOf3,
  v3 := Tryz.zeroValue3,
  t37 := Tryz.underlying36,
  a37 := Tryz.isAgg36,
  z37 := Tryz.sizeOf36,
  v37 := Tryz.zeroValue36,
  t70 := Tryz.underlying35,
  a70 := Tryz.isAgg35,
  z70 := Tryz.sizeOf35,
  v70 := Tryz.zeroValue35,
  t72 := Tryz.underlying38,
  a72 := Tryz.isAgg38,
  z72 := Tryz.sizeOf38,
  v72 := Tryz.zeroValue38 }
theorem Tryz.Builder_Extra_241 : Builder.Extra Tryz.prog Tryz.lays241_ren := {
  sizeBuilder := by kernel_rfl,
  liesBuilder := by kernel_rfl,
  t5 := Tryz.underlying5,
  a5 := Tryz.isAgg5,
  z5 := Tryz.sizeOf5,
  v5 := Tryz.zeroValue5,
  infoByte := by kernel_rfl,
  cellsByte := by kernel_rfl,
  sizeByte := by kernel_rfl,
  neB5 := by decide }
open Go.RowKit in
theorem Tryz.Builder_grow_fresh (B b n : Nat) (w : World) (hB : B ≤ b) (hbk : w.heap[b]? = some (.cells #[.pointer (some ⟨b, 0, none⟩), .slice none 0 0] 38 (0, 0))) (hBw : B ≤ w.heap.size) (hn : n ≤ 281474976710656) :
    Calls Tryz.prog 140 #[.pointer (some ⟨b, 0, none⟩), .int .i64 n] w fun e w' => e = .returned (.tuple #[]) ∧ (Lib.BuilderAt 38 5 B b (.pointer (some ⟨b, 0, none⟩)) [] w' ∧ Below B w w') := Any.Builder_grow_fresh Tryz.lays241 Tryz.Builder_Extra_241 B b n w hB hbk hBw hn
def Tryz.lays165_ren : Go.Shelf.Ren := ⟨fun | 165 => 139 | 240 => 31 | 241 => 140 | 276 => 49 | 277 => 141 | n => n, fun | 0 => 0 | 3 => 3 | 4 => 4 | 5 => 5 | 9 => 9 | 20 => 20 | 37 => 36 | 70 => 35 | 72 => 38 | 164 => 64 | n => n, fun | 1 => 0 | 17 => 1 | 18 => 2 | 19 => 3 | n => n⟩
theorem Tryz.lays165 : Go.Proofs.Lays.n165 Tryz.prog Tryz.lays165_ren := {
  mixed := by kernel_rfl,
  f165 := Tryz.func139.trans (congrArg some (by kernel_rfl)),
  f240 := Tryz.func31.trans (congrArg some (by kernel_rfl)),
  f241 := Tryz.func140.trans (congrArg some (by kernel_rfl)),
  f276 := Tryz.func49.trans (congrArg some (by kernel_rfl)),
  f277 := Tryz.func141.trans (congrArg some (by kernel_rfl)),
  t0 := Tryz.underlying0,
  a0 := Tryz.isAgg0,
  z0 := Tryz.sizeOf0,
  v0 := Tryz.zeroValue0,
  t3 := Tryz.underlying3,
  a3 := Tryz.isAgg3,
  z3 := Tryz.sizeOf3,
  v3 := Tryz.zeroValue3,
  t4 := Tryz.underlying4,
  a4 := Tryz.isAgg4,
  z4 := Tryz.sizeOf4,
  v4 := Tryz.zeroValue4,
  t9 := Tryz.underlying9,
  a9 := Tryz.isAgg9,
  z9 := Tryz.sizeOf9,
  v9 := Tryz.zeroValue9,
  t20 := Tryz.underlying20,
  a20 := Tryz.isAgg20,
  z20 := Tryz.sizeOf20,
  v20 := Tryz.zeroValue20,
  t37 := Tryz.underlying36,
  a37 := Tryz.isAgg36,
  z37 := Tryz.sizeOf36,
  v37 := Tryz.zeroValue36,
  t70 := Tryz.underlying35,
  a70 := Tryz.isAgg35,
  z70 := Tryz.sizeOf35,
  v70 := Tryz.zeroValue35,
  t72 := Tryz.underlying38,
  a72 := Tryz.isAgg38,
  z72 := Tryz.sizeOf38,
  v72 := Tryz.zeroValue38,
  t164 := Tryz.underlying64,
  a164 := Tryz.isAgg64,
  z164 := Tryz.sizeOf64,
  v164 := Tryz.zeroValue64 }
theorem Tryz.Builder_Extra_165 : Builder.Extra Tryz.prog Tryz.lays165_ren := {
  sizeBuilder := by kernel_rfl,
  liesBuilder := by kernel_rfl,
  t5 := Tryz.underlying5,
  a5 := Tryz.isAgg5,
  z5 := Tryz.sizeOf5,
  v5 := Tryz.zeroValue5,
  infoByte := by kernel_rfl,
  cellsByte := by kernel_rfl,
  sizeByte := by kernel_rfl,
  neB5 := by decide }
open Go.RowKit in
theorem Tryz.Builder_Grow_fresh (B b n : Nat) (w : World) (hB : B ≤ b) (hbk : w.heap[b]? = some (.cells #[.pointer none, .slice none 0 0] 38 (0, 0))) (hBw : B ≤ w.heap.size) (hn : n ≤ 281474976710656) :
    Calls Tryz.prog 139 #[.pointer (some ⟨b, 0, none⟩), .int .i64 n] w fun e w' => e = .returned (.tuple #[]) ∧ (Lib.BuilderAt 38 5 B b (.pointer (some ⟨b, 0, none⟩)) [] w' ∧ Below B w w') := Any.Builder_Grow_fresh Tryz.lays165 Tryz.Builder_Extra_165 B b n w hB hbk hBw hn
def Tryz.lays119_ren : Go.Shelf.Ren := ⟨fun | 119 => 71 | n => n, fun | 4 => 4 | 21 => 21 | n => n, fun | 1 => 0 | 17 => 1 | 18 => 2 | 19 => 3 | n => n⟩
theorem Tryz.lays119 : Go.Proofs.Lays.n119 Tryz.prog Tryz.lays119_ren := {
  mixed := by kernel_rfl,
  f119 := Tryz.func71.trans (congrArg some (by kernel_rfl)),
  t4 := Tryz.underlying4,
  a4 := Tryz.isAgg4,
  z4 := Tryz.sizeOf4,
  v4 := Tryz.zeroValue4,
  t21 := Tryz.underlying21,
  a21 := Tryz.isAgg21,
  z21 := Tryz.sizeOf21,
  v21 := Tryz.zeroValue21 }
theorem Tryz.utf8_ValidRune (r : Int) (w : World) :
    Calls Tryz.prog 71 #[.int .i32 r] w fun e w' => e = .returned (.bool (Lib.validRune r)) ∧ w' = w := Any.utf8_ValidRune Tryz.lays119 r w
def Tryz.lays137_ren : Go.Shelf.Ren := ⟨fun | 137 => 62 | 217 => 66 | 266 => 79 | n => n, fun | 3 => 3 | 5 => 5 | 9 => 9 | n => n, fun | 1 => 0 | 17 => 1 | 18 => 2 | 19 => 3 | n => n⟩
theorem Tryz.lays137 : Go.Proofs.Lays.n137 Tryz.prog Tryz.lays137_ren := {
  mixed := by kernel_rfl,
  f137 := Tryz.func62.trans (congrArg some (by kernel_rfl)),
  f217 := Tryz.func66.trans (congrArg some (by kernel_rfl)),
  f266 := Tryz.func79.trans (congrArg some (by kernel_rfl)),
  t3 := Tryz.underlying3,
  a3 := Tryz.isAgg3,
  z3 := Tryz.sizeOf3,
  v3 := Tryz.zeroValue3,
  t5 := Tryz.underlying5,
  a5 := Tryz.isAgg5,
  z5 := Tryz.sizeOf5,
  v5 := Tryz.zeroValue5,
  t9 := Tryz.underlying9,
  a9 := Tryz.isAgg9,
  z9 := Tryz.sizeOf9,
  v9 := Tryz.zeroValue9 }
open Go.RowKit in
theorem Tryz.strings_IndexByte (s : ByteArray) (c : Int) (w : World) :
    Calls Tryz.prog 62 #[.string s, .int .u8 c] w fun e w' => e = .returned (.int .i64 (Lib.indexByte s.data.toList c.toNat.toUInt8)) ∧ w' = w := Any.strings_IndexByte Tryz.lays137 s c w
open Go.RowKit in
theorem Tryz.Builder_copyCheck_f (B b : Nat) (bs : List Value) (w : World) (h : Lib.IsBuilderF 38 5 B b bs w) :
    Calls Tryz.prog 31 #[.pointer (some ⟨b, 0, none⟩)] w fun e w' => e = .returned (.tuple #[]) ∧ (Lib.BuilderAtF 38 5 B b (.pointer (some ⟨b, 0, none⟩)) bs w' ∧ Below B w w') := Any.Builder_copyCheck_f Tryz.lays240 Tryz.Builder_X72_240 B b bs w h
open Go.RowKit in
theorem Tryz.Builder_WriteString_f (B b : Nat) (bs : List Value) (s : ByteArray) (w : World) (h : Lib.IsBuilderF 38 5 B b bs w) (hlen : bs.length + s.size ≤ 140737488355328) (hBw : B ≤ w.heap.size) :
    Calls Tryz.prog 19 #[.pointer (some ⟨b, 0, none⟩), .string s] w fun e w' => e = .returned (.tuple #[.int .i64 s.size, .nilIface]) ∧ (Lib.BuilderAtF 38 5 B b (.pointer (some ⟨b, 0, none⟩)) (bs ++ Lib.strCells s) w' ∧ Below B w w') := Any.Builder_WriteString_f Tryz.lays166 Tryz.Builder_Extra_166 B b bs s w h hlen hBw
open Go.RowKit in
theorem Tryz.Builder_String_f (B b : Nat) (l : List UInt8) (w : World) (h : Lib.IsBuilderF 38 5 B b (Lib.byteCells l) w) (h0 : l ≠ []) :
    Calls Tryz.prog 20 #[.pointer (some ⟨b, 0, none⟩)] w fun e w' => e = .returned (.string ⟨l.toArray⟩) ∧ (Lib.IsBuilderF 38 5 B b (Lib.byteCells l) w' ∧ Below B w w') := Any.Builder_String_f Tryz.lays169 Tryz.Builder_Extra_169 B b l w h h0
open Go.RowKit in
theorem Tryz.Builder_String_empty_f (B b : Nat) (w : World) (h : Lib.IsBuilderF 38 5 B b [] w) (hBw : B ≤ w.heap.size) :
    Calls Tryz.prog 20 #[.pointer (some ⟨b, 0, none⟩)] w fun e w' => e = .returned (.string ⟨#[]⟩) ∧ (Lib.IsBuilderF 38 5 B b [] w' ∧ Below B w w') := Any.Builder_String_empty_f Tryz.lays169 Tryz.Builder_Extra_169 B b w h hBw
open Go.RowKit in
theorem Tryz.Builder_String_any_f (B b : Nat) (l : List UInt8) (w : World) (h : Lib.IsBuilderF 38 5 B b (Lib.byteCells l) w) (hBw : B ≤ w.heap.size) :
    Calls Tryz.prog 20 #[.pointer (some ⟨b, 0, none⟩)] w fun e w' => e = .returned (.string ⟨l.toArray⟩) ∧ (Lib.IsBuilderF 38 5 B b (Lib.byteCells l) w' ∧ Below B w w') := Any.Builder_String_any_f Tryz.lays169 Tryz.Builder_Extra_169 B b l w h hBw
open Go.RowKit in
theorem Tryz.Builder_copyCheck_k (B b : Nat) (bs : List Value) (w : World) (h : Lib.IsBuilderF 38 5 B b bs w) :
    Calls Tryz.prog 31 #[.pointer (some ⟨b, 0, none⟩)] w fun e w' => e = .returned (.tuple #[]) ∧ (Lib.BuilderAtF 38 5 B b (.pointer (some ⟨b, 0, none⟩)) bs w' ∧ Below B w w' ∧ Lib.OthersKept 5 (some b) w w') := Any.Builder_copyCheck_k Tryz.lays240 Tryz.Builder_X72_240 B b bs w h
open Go.RowKit in
theorem Tryz.Builder_WriteByte_k (B b : Nat) (bs : List Value) (c : Int) (w : World) (h : Lib.IsBuilderF 38 5 B b bs w) (hlen : bs.length + 1 ≤ 140737488355328) (hBw : B ≤ w.heap.size) :
    Calls Tryz.prog 22 #[.pointer (some ⟨b, 0, none⟩), .int .u8 c] w fun e w' => e = .returned .nilIface ∧ (Lib.BuilderAtF 38 5 B b (.pointer (some ⟨b, 0, none⟩)) (bs ++ [.int .u8 c]) w' ∧ Below B w w' ∧ Lib.OthersKept 5 (some b) w w') := Any.Builder_WriteByte_k Tryz.lays167 Tryz.Builder_Extra_167 B b bs c w h hlen hBw
open Go.RowKit in
theorem Tryz.Builder_WriteString_k (B b : Nat) (bs : List Value) (s : ByteArray) (w : World) (h : Lib.IsBuilderF 38 5 B b bs w) (hlen : bs.length + s.size ≤ 140737488355328) (hBw : B ≤ w.heap.size) :
    Calls Tryz.prog 19 #[.pointer (some ⟨b, 0, none⟩), .string s] w fun e w' => e = .returned (.tuple #[.int .i64 s.size, .nilIface]) ∧ (Lib.BuilderAtF 38 5 B b (.pointer (some ⟨b, 0, none⟩)) (bs ++ Lib.strCells s) w' ∧ Below B w w' ∧ Lib.OthersKept 5 (some b) w w') := Any.Builder_WriteString_k Tryz.lays166 Tryz.Builder_Extra_166 B b bs s w h hlen hBw
open Go.RowKit in
theorem Tryz.Builder_String_k (B b : Nat) (l : List UInt8) (w : World) (h : Lib.IsBuilderF 38 5 B b (Lib.byteCells l) w) (h0 : l ≠ []) :
    Calls Tryz.prog 20 #[.pointer (some ⟨b, 0, none⟩)] w fun e w' => e = .returned (.string ⟨l.toArray⟩) ∧ (Lib.IsBuilderF 38 5 B b (Lib.byteCells l) w' ∧ Below B w w' ∧ Lib.OthersKept 5 (some b) w w') := Any.Builder_String_k Tryz.lays169 Tryz.Builder_Extra_169 B b l w h h0
open Go.RowKit in
theorem Tryz.Builder_String_empty_k (B b : Nat) (w : World) (h : Lib.IsBuilderF 38 5 B b [] w) (hBw : B ≤ w.heap.size) :
    Calls Tryz.prog 20 #[.pointer (some ⟨b, 0, none⟩)] w fun e w' => e = .returned (.string ⟨#[]⟩) ∧ (Lib.IsBuilderF 38 5 B b [] w' ∧ Below B w w' ∧ Lib.OthersKept 5 (some b) w w') := Any.Builder_String_empty_k Tryz.lays169 Tryz.Builder_Extra_169 B b w h hBw
open Go.RowKit in
theorem Tryz.Builder_String_any_k (B b : Nat) (l : List UInt8) (w : World) (h : Lib.IsBuilderF 38 5 B b (Lib.byteCells l) w) (hBw : B ≤ w.heap.size) :
    Calls Tryz.prog 20 #[.pointer (some ⟨b, 0, none⟩)] w fun e w' => e = .returned (.string ⟨l.toArray⟩) ∧ (Lib.IsBuilderF 38 5 B b (Lib.byteCells l) w' ∧ Below B w w' ∧ Lib.OthersKept 5 (some b) w w') := Any.Builder_String_any_k Tryz.lays169 Tryz.Builder_Extra_169 B b l w h hBw
def Tryz.lays195_ren : Go.Shelf.Ren := ⟨fun | 195 => 151 | n => n, fun | 0 => 0 | 3 => 3 | 4 => 4 | 9 => 9 | n => n, fun | 1 => 0 | 17 => 1 | 18 => 2 | 19 => 3 | n => n⟩
theorem Tryz.lays195 : Go.Proofs.Lays.n195 Tryz.prog Tryz.lays195_ren := {
  mixed := by kernel_rfl,
  f195 := Tryz.func151.trans (congrArg some (by kernel_rfl)),
  t0 := Tryz.underlying0,
  a0 := Tryz.isAgg0,
  z0 := Tryz.sizeOf0,
  v0 := Tryz.zeroValue0,
  t3 := Tryz.underlying3,
  a3 := Tryz.isAgg3,
  z3 := Tryz.sizeOf3,
  v3 := Tryz.zeroValue3,
  t4 := Tryz.underlying4,
  a4 := Tryz.isAgg4,
  z4 := Tryz.sizeOf4,
  v4 := Tryz.zeroValue4,
  t9 := Tryz.underlying9,
  a9 := Tryz.isAgg9,
  z9 := Tryz.sizeOf9,
  v9 := Tryz.zeroValue9 }
open Go.RowKit in
theorem Tryz.utf8_RuneCountInString (s : ByteArray) (w : World) (hs : s.size < 9223372036854775807) :
    Calls Tryz.prog 151 #[.string s] w fun e w' => e = .returned (.int .i64 (Lib.runeCount s)) ∧ ∃ pos, w' = w.iter s pos := Any.utf8_RuneCountInString Tryz.lays195 s w hs
def Tryz.lays129_ren : Go.Shelf.Ren := ⟨fun | 129 => 85 | n => n, fun | 3 => 3 | 4 => 4 | 5 => 5 | 9 => 9 | 46 => 78 | 53 => 102 | n => n, fun | 1 => 0 | 17 => 1 | 18 => 2 | 19 => 3 | n => n⟩
theorem Tryz.lays129 : Go.Proofs.Lays.n129 Tryz.prog Tryz.lays129_ren := {
  mixed := by kernel_rfl,
  f129 := Tryz.func85.trans (congrArg some (by kernel_rfl)),
  t3 := Tryz.underlying3,
  a3 := Tryz.isAgg3,
  z3 := Tryz.sizeOf3,
  v3 := Tryz.zeroValue3,
  t4 := Tryz.underlying4,
  a4 := Tryz.isAgg4,
  z4 := Tryz.sizeOf4,
  v4 := Tryz.zeroValue4,
  t5 := Tryz.underlying5,
  a5 := Tryz.isAgg5,
  z5 := Tryz.sizeOf5,
  v5 := Tryz.zeroValue5,
  t9 := Tryz.underlying9,
  a9 := Tryz.isAgg9,
  z9 := Tryz.sizeOf9,
  v9 := Tryz.zeroValue9,
  t46 := Tryz.underlying78,
  a46 := Tryz.isAgg78,
  z46 := Tryz.sizeOf78,
  v46 := Tryz.zeroValue78,
  t53 := Tryz.underlying102,
  a53 := Tryz.isAgg102,
  z53 := Tryz.sizeOf102,
  v53 := Tryz.zeroValue102 }
theorem Tryz.bits_Len64 (x : Int) (w : World) (h0 : 0 ≤ x) (h1 : x ≤ 18446744073709551615) :
    Calls Tryz.prog 85 #[.int .u64 x] w fun e w' => e = .returned (.int .i64 (Lib.bitLen x.toNat)) ∧ w' = w := Any.bits_Len64 Tryz.lays129 x w h0 h1
def Tryz.lays317_ren : Go.Shelf.Ren := ⟨fun | 317 => 84 | n => n, fun | 3 => 3 | 46 => 78 | n => n, fun | 1 => 0 | 17 => 1 | 18 => 2 | 19 => 3 | n => n⟩
theorem Tryz.lays317 : Go.Proofs.Lays.n317 Tryz.prog Tryz.lays317_ren := {
  mixed := by kernel_rfl,
  f317 := Tryz.func84.trans (congrArg some (by kernel_rfl)),
  t3 := Tryz.underlying3,
  a3 := Tryz.isAgg3,
  z3 := Tryz.sizeOf3,
  v3 := Tryz.zeroValue3,
  t46 := Tryz.underlying78,
  a46 := Tryz.isAgg78,
  z46 := Tryz.sizeOf78,
  v46 := Tryz.zeroValue78 }
open Go.Lib in
theorem Tryz.internal_strconv_log10Pow2 (x : Nat) (h : x ≤ 64) (w : World) :
    Calls Tryz.prog 84 #[.int .i64 x] w fun e w' => e = .returned (.int .i64 (Lib.l10 x)) ∧ w' = w := Any.internal_strconv_log10Pow2 Tryz.lays317 x h w
def Tryz.lays318_ren : Go.Shelf.Ren := ⟨fun | 318 => 86 | n => n, fun | 3 => 3 | 4 => 4 | n => n, fun | 1 => 0 | 17 => 1 | 18 => 2 | 19 => 3 | n => n⟩
theorem Tryz.lays318 : Go.Proofs.Lays.n318 Tryz.prog Tryz.lays318_ren := {
  mixed := by kernel_rfl,
  f318 := Tryz.func86.trans (congrArg some (by kernel_rfl)),
  t3 := Tryz.underlying3,
  a3 := Tryz.isAgg3,
  z3 := Tryz.sizeOf3,
  v3 := Tryz.zeroValue3,
  t4 := Tryz.underlying4,
  a4 := Tryz.isAgg4,
  z4 := Tryz.sizeOf4,
  v4 := Tryz.zeroValue4 }
open Go.Lib in
theorem Tryz.internal_strconv_bool2_int (b : Bool) (w : World) :
    Calls Tryz.prog 86 #[.bool b] w fun e w' => e = .returned (.int .i64 (if b then 1 else 0)) ∧ w' = w := Any.internal_strconv_bool2_int Tryz.lays318 b w
def Tryz.lays283_ren : Go.Shelf.Ren := ⟨fun | 283 => 75 | n => n, fun | 3 => 3 | 4 => 4 | 9 => 9 | n => n, fun | 1 => 0 | 17 => 1 | 18 => 2 | 19 => 3 | n => n⟩
theorem Tryz.lays283 : Go.Proofs.Lays.n283 Tryz.prog Tryz.lays283_ren := {
  mixed := by kernel_rfl,
  f283 := Tryz.func75.trans (congrArg some (by kernel_rfl)),
  t3 := Tryz.underlying3,
  a3 := Tryz.isAgg3,
  z3 := Tryz.sizeOf3,
  v3 := Tryz.zeroValue3,
  t4 := Tryz.underlying4,
  a4 := Tryz.isAgg4,
  z4 := Tryz.sizeOf4,
  v4 := Tryz.zeroValue4,
  t9 := Tryz.underlying9,
  a9 := Tryz.isAgg9,
  z9 := Tryz.sizeOf9,
  v9 := Tryz.zeroValue9 }
open Go.Lib in
theorem Tryz.internal_strconv_small (i : Nat) (h : i < 100) (w : World) :
    Calls Tryz.prog 75 #[.int .i64 i] w fun e w' => e = .returned (.string ⟨(Lib.decDigits i).toArray⟩) ∧ w' = w := Any.internal_strconv_small Tryz.lays283 i h w
def Tryz.lays285_ren : Go.Shelf.Ren := ⟨fun | 285 => 77 | n => n, fun | 0 => 0 | 3 => 3 | 4 => 4 | 5 => 5 | 9 => 9 | 37 => 36 | 51 => 87 | 53 => 102 | n => n, fun | 1 => 0 | 17 => 1 | 18 => 2 | 19 => 3 | n => n⟩
theorem Tryz.lays285 : Go.Proofs.Lays.n285 Tryz.prog Tryz.lays285_ren := {
  mixed := by kernel_rfl,
  f285 := Tryz.func77.trans (congrArg some (by kernel_rfl)),
  t0 := Tryz.underlying0,
  a0 := Tryz.isAgg0,
  z0 := Tryz.sizeOf0,
  v0 := Tryz.zeroValue0,
  t3 := Tryz.underlying3,
  a3 := Tryz.isAgg3,
  z3 := Tryz.sizeOf3,
  v3 := Tryz.zeroValue3,
  t4 := Tryz.underlying4,
  a4 := Tryz.isAgg4,
  z4 := Tryz.sizeOf4,
  v4 := Tryz.zeroValue4,
  t5 := Tryz.underlying5,
  a5 := Tryz.isAgg5,
  z5 := Tryz.sizeOf5,
  v5 := Tryz.zeroValue5,
  t9 := Tryz.underlying9,
  a9 := Tryz.isAgg9,
  z9 := Tryz.sizeOf9,
  v9 := Tryz.zeroValue9,
  t37 := Tryz.underlying36,
  a37 := Tryz.isAgg36,
  z37 := Tryz.sizeOf36,
  v37 := Tryz.zeroValue36,
  t51 := Tryz.underlying87,
  a51 := Tryz.isAgg87,
  z51 := Tryz.sizeOf87,
  v51 := Tryz.zeroValue87,
  t53 := Tryz.underlying102,
  a53 := Tryz.isAgg102,
  z53 := Tryz.sizeOf102,
  v53 := Tryz.zeroValue102 }
open Go.RowKit Go.Sort Go.Lib in
theorem Tryz.internal_strconv_formatBase10 (blk off cap : Nat) (u : Nat) (d : Array UInt8) (w : World) (hH : Holds (fun (b : UInt8) => Value.int .u8 (b.toNat : Int)) w blk off d) (hu : u < 10 ^ d.size) (hu64 : u < 18446744073709551616) (hsz : d.size < 4611686018427387904) :
    Calls Tryz.prog 77 #[.slice (some ⟨blk, off, none⟩) d.size cap, .int .u64 u] w fun e w' =>
      e = .returned (.tuple #[]) ∧ ∃ (n v' : Nat) (dk : Array UInt8), w' = (putRow (fun (b : UInt8) => Value.int .u8 (b.toNat : Int)) w blk off dk).drewN n ∧ FmtInv d.size u 0 v' dk := Any.internal_strconv_formatBase10 Tryz.lays285 blk off cap u d w hH hu hu64 hsz
def Tryz.lays246_ren : Go.Shelf.Ren := ⟨fun | 129 => 85 | 246 => 65 | 283 => 75 | 284 => 76 | 285 => 77 | 286 => 78 | 317 => 84 | 318 => 86 | 319 => 87 | 320 => 88 | 337 => 95 | 338 => 96 | n => n, fun | 0 => 0 | 2 => 2 | 3 => 3 | 4 => 4 | 5 => 5 | 9 => 9 | 20 => 20 | 37 => 36 | 46 => 78 | 51 => 87 | 53 => 102 | 171 => 101 | 173 => 105 | 212 => 112 | 213 => 113 | 232 => 145 | 233 => 146 | n => n, fun | 1 => 0 | 17 => 1 | 18 => 2 | 19 => 3 | n => n⟩
theorem Tryz.lays246 : Go.Proofs.Lays.n246 Tryz.prog Tryz.lays246_ren := {
  mixed := by kernel_rfl,
  f129 := Tryz.func85.trans (congrArg some (by kernel_rfl)),
  f246 := Tryz.func65.trans (congrArg some (by kernel_rfl)),
  f283 := Tryz.func75.trans (congrArg some (by kernel_rfl)),
  f284 := Tryz.func76.trans (congrArg some (by kernel_rfl)),
  f285 := Tryz.func77.trans (congrArg some (by kernel_rfl)),
  f286 := Tryz.func78.trans (congrArg some (by kernel_rfl)),
  f317 := Tryz.func84.trans (congrArg some (by kernel_rfl)),
  f318 := Tryz.func86.trans (congrArg some (by kernel_rfl)),
  f319 := Tryz.func87.trans (congrArg some (by kernel_rfl)),
  f320 := Tryz.func88.trans (congrArg some (by kernel_rfl)),
  f337 := Tryz.func95.trans (congrArg some (by kernel_rfl)),
  f338 := Tryz.func96.trans (congrArg some (by kernel_rfl)),
  t0 := Tryz.underlying0,
  a0 := Tryz.isAgg0,
  z0 := Tryz.sizeOf0,
  v0 := Tryz.zeroValue0,
  t2 := Tryz.underlying2,
  a2 := Tryz.isAgg2,
  z2 := Tryz.sizeOf2,
  v2 := Tryz.zeroValue2,
  t3 := Tryz.underlying3,
  a3 := Tryz.isAgg3,
  z3 := Tryz.sizeOf3,
  v3 := Tryz.zeroValue3,
  t4 := Tryz.underlying4,
  a4 := Tryz.isAgg4,
  z4 := Tryz.sizeOf4,
  v4 := Tryz.zeroValue4,
  t5 := Tryz.underlying5,
  a5 := Tryz.isAgg5,
  z5 := Tryz.sizeOf5,
  v5 := Tryz.zeroValue5,
  t9 := Tryz.underlying9,
  a9 := Tryz.isAgg9,
  z9 := Tryz.sizeOf9,
  v9 := Tryz.zeroValue9,
  t20 := Tryz.underlying20,
  a20 := Tryz.isAgg20,
  z20 := Tryz.sizeOf20,
  v20 := Tryz.zeroValue20,
  t37 := Tryz.underlying36,
  a37 := Tryz.isAgg36,
  z37 := Tryz.sizeOf36,
  v37 := Tryz.zeroValue36,
  t46 := Tryz.underlying78,
  a46 := Tryz.isAgg78,
  z46 := Tryz.sizeOf78,
  v46 := Tryz.zeroValue78,
  t51 := Tryz.underlying87,
  a51 := Tryz.isAgg87,
  z51 := Tryz.sizeOf87,
  v51 := Tryz.zeroValue87,
  t53 := Tryz.underlying102,
  a53 := Tryz.isAgg102,
  z53 := Tryz.sizeOf102,
  v53 := Tryz.zeroValue102,
  t171 := Tryz.underlying101,
  a171 := Tryz.isAgg101,
  z171 := Tryz.sizeOf101,
  v171 := Tryz.zeroValue101,
  t173 := Tryz.underlying105,
  a173 := Tryz.isAgg105,
  z173 := Tryz.sizeOf105,
  v173 := Tryz.zeroValue105,
  t212 := Tryz.underlying112,
  a212 := Tryz.isAgg112,
  z212 := Tryz.sizeOf112,
  v212 := Tryz.zeroValue112,
  t213 := Tryz.underlying113,
  a213 := Tryz.isAgg113,
  z213 := Tryz.sizeOf113,
  t232 := Tryz.underlying145,
  a232 := Tryz.isAgg145,
  z232 := Tryz.sizeOf145,
  v232 := Tryz.zeroValue145,
  t233 := Tryz.underlying146,
  a233 := Tryz.isAgg146,
  z233 := Tryz.sizeOf146,
  v233 := Tryz.zeroValue146,
  g17 := by kernel_rfl,
  g18 := by kernel_rfl,
  g19 := by kernel_rfl }
open Go.RowKit Go.Sort Go.Lib in
theorem Tryz.internal_strconv_FormatInt_10_small (i : Nat) (hi : i < 100) (w : World) :
    Calls Tryz.prog 65 #[.int .i64 i, .int .i64 10] w fun e w' => e = .returned (.string ⟨(Lib.decDigits i).toArray⟩) ∧ w' = w := Any.internal_strconv_FormatInt_10_small Tryz.lays246 i hi w
def Tryz.lays243_ren : Go.Shelf.Ren := ⟨fun | 129 => 85 | 243 => 47 | 246 => 65 | 283 => 75 | 284 => 76 | 285 => 77 | 286 => 78 | 317 => 84 | 318 => 86 | 319 => 87 | 320 => 88 | 337 => 95 | 338 => 96 | n => n, fun | 0 => 0 | 2 => 2 | 3 => 3 | 4 => 4 | 5 => 5 | 9 => 9 | 20 => 20 | 37 => 36 | 46 => 78 | 51 => 87 | 53 => 102 | 171 => 101 | 173 => 105 | 212 => 112 | 213 => 113 | 232 => 145 | 233 => 146 | n => n, fun | 1 => 0 | 17 => 1 | 18 => 2 | 19 => 3 | n => n⟩
theorem Tryz.lays243 : Go.Proofs.Lays.n243 Tryz.prog Tryz.lays243_ren := {
  mixed := by kernel_rfl,
  f129 := Tryz.func85.trans (congrArg some (by kernel_rfl)),
  f243 := Tryz.func47.trans (congrArg some (by kernel_rfl)),
  f246 := Tryz.func65.trans (congrArg some (by kernel_rfl)),
  f283 := Tryz.func75.trans (congrArg some (by kernel_rfl)),
  f284 := Tryz.func76.trans (congrArg some (by kernel_rfl)),
  f285 := Tryz.func77.trans (congrArg some (by kernel_rfl)),
  f286 := Tryz.func78.trans (congrArg some (by kernel_rfl)),
  f317 := Tryz.func84.trans (congrArg some (by kernel_rfl)),
  f318 := Tryz.func86.trans (congrArg some (by kernel_rfl)),
  f319 := Tryz.func87.trans (congrArg some (by kernel_rfl)),
  f320 := Tryz.func88.trans (congrArg some (by kernel_rfl)),
  f337 := Tryz.func95.trans (congrArg some (by kernel_rfl)),
  f338 := Tryz.func96.trans (congrArg some (by kernel_rfl)),
  t0 := Tryz.underlying0,
  a0 := Tryz.isAgg0,
  z0 := Tryz.sizeOf0,
  v0 := Tryz.zeroValue0,
  t2 := Tryz.underlying2,
  a2 := Tryz.isAgg2,
  z2 := Tryz.sizeOf2,
  v2 := Tryz.zeroValue2,
  t3 := Tryz.underlying3,
  a3 := Tryz.isAgg3,
  z3 := Tryz.sizeOf3,
  v3 := Tryz.zeroValue3,
  t4 := Tryz.underlying4,
  a4 := Tryz.isAgg4,
  z4 := Tryz.sizeOf4,
  v4 := Tryz.zeroValue4,
  t5 := Tryz.underlying5,
  a5 := Tryz.isAgg5,
  z5 := Tryz.sizeOf5,
  v5 := Tryz.zeroValue5,
  t9 := Tryz.underlying9,
  a9 := Tryz.isAgg9,
  z9 := Tryz.sizeOf9,
  v9 := Tryz.zeroValue9,
  t20 := Tryz.underlying20,
  a20 := Tryz.isAgg20,
  z20 := Tryz.sizeOf20,
  v20 := Tryz.zeroValue20,
  t37 := Tryz.underlying36,
  a37 := Tryz.isAgg36,
  z37 := Tryz.sizeOf36,
  v37 := Tryz.zeroValue36,
  t46 := Tryz.underlying78,
  a46 := Tryz.isAgg78,
  z46 := Tryz.sizeOf78,
  v46 := Tryz.zeroValue78,
  t51 := Tryz.underlying87,
  a51 := Tryz.isAgg87,
  z51 := Tryz.sizeOf87,
  v51 := Tryz.zeroValue87,
  t53 := Tryz.underlying102,
  a53 := Tryz.isAgg102,
  z53 := Tryz.sizeOf102,
  v53 := Tryz.zeroValue102,
  t171 := Tryz.underlying101,
  a171 := Tryz.isAgg101,
  z171 := Tryz.sizeOf101,
  v171 := Tryz.zeroValue101,
  t173 := Tryz.underlying105,
  a173 := Tryz.isAgg105,
  z173 := Tryz.sizeOf105,
  v173 := Tryz.zeroValue105,
  t212 := Tryz.underlying112,
  a212 := Tryz.isAgg112,
  z212 := Tryz.sizeOf112,
  v212 := Tryz.zeroValue112,
  t213 := Tryz.underlying113,
  a213 := Tryz.isAgg113,
  z213 := Tryz.sizeOf113,
  t232 := Tryz.underlying145,
  a232 := Tryz.isAgg145,
  z232 := Tryz.sizeOf145,
  v232 := Tryz.zeroValue145,
  t233 := Tryz.underlying146,
  a233 := Tryz.isAgg146,
  z233 := Tryz.sizeOf146,
  v233 := Tryz.zeroValue146,
  g17 := by kernel_rfl,
  g18 := by kernel_rfl,
  g19 := by kernel_rfl }
open Go.RowKit Go.Sort Go.Lib in
theorem Tryz.internal_strconv_Itoa_small (i : Nat) (hi : i < 100) (w : World) :
    Calls Tryz.prog 47 #[.int .i64 i] w fun e w' => e = .returned (.string ⟨(Lib.decDigits i).toArray⟩) ∧ w' = w := Any.internal_strconv_Itoa_small Tryz.lays243 i hi w
def Tryz.lays171_ren : Go.Shelf.Ren := ⟨fun | 129 => 85 | 171 => 29 | 243 => 47 | 246 => 65 | 283 => 75 | 284 => 76 | 285 => 77 | 286 => 78 | 317 => 84 | 318 => 86 | 319 => 87 | 320 => 88 | 337 => 95 | 338 => 96 | n => n, fun | 0 => 0 | 2 => 2 | 3 => 3 | 4 => 4 | 5 => 5 | 9 => 9 | 20 => 20 | 37 => 36 | 46 => 78 | 51 => 87 | 53 => 102 | 171 => 101 | 173 => 105 | 212 => 112 | 213 => 113 | 232 => 145 | 233 => 146 | n => n, fun | 1 => 0 | 17 => 1 | 18 => 2 | 19 => 3 | n => n⟩
theorem Tryz.lays171 : Go.Proofs.Lays.n171 Tryz.prog Tryz.lays171_ren := {
  mixed := by kernel_rfl,
  f129 := Tryz.func85.trans (congrArg some (by kernel_rfl)),
  f171 := Tryz.func29.trans (congrArg some (by kernel_rfl)),
  f243 := Tryz.func47.trans (congrArg some (by kernel_rfl)),
  f246 := Tryz.func65.trans (congrArg some (by kernel_rfl)),
  f283 := Tryz.func75.trans (congrArg some (by kernel_rfl)),
  f284 := Tryz.func76.trans (congrArg some (by kernel_rfl)),
  f285 := Tryz.func77.trans (congrArg some (by kernel_rfl)),
  f286 := Tryz.func78.trans (congrArg some (by kernel_rfl)),
  f317 := Tryz.func84.trans (congrArg some (by kernel_rfl)),
  f318 := Tryz.func86.trans (congrArg some (by kernel_rfl)),
  f319 := Tryz.func87.trans (congrArg some (by kernel_rfl)),
  f320 := Tryz.func88.trans (congrArg some (by kernel_rfl)),
  f337 := Tryz.func95.trans (congrArg some (by kernel_rfl)),
  f338 := Tryz.func96.trans (congrArg some (by kernel_rfl)),
  t0 := Tryz.underlying0,
  a0 := Tryz.isAgg0,
  z0 := Tryz.sizeOf0,
  v0 := Tryz.zeroValue0,
  t2 := Tryz.underlying2,
  a2 := Tryz.isAgg2,
  z2 := Tryz.sizeOf2,
  v2 := Tryz.zeroValue2,
  t3 := Tryz.underlying3,
  a3 := Tryz.isAgg3,
  z3 := Tryz.sizeOf3,
  v3 := Tryz.zeroValue3,
  t4 := Tryz.underlying4,
  a4 := Tryz.isAgg4,
  z4 := Tryz.sizeOf4,
  v4 := Tryz.zeroValue4,
  t5 := Tryz.underlying5,
  a5 := Tryz.isAgg5,
  z5 := Tryz.sizeOf5,
  v5 := Tryz.zeroValue5,
  t9 := Tryz.underlying9,
  a9 := Tryz.isAgg9,
  z9 := Tryz.sizeOf9,
  v9 := Tryz.zeroValue9,
  t20 := Tryz.underlying20,
  a20 := Tryz.isAgg20,
  z20 := Tryz.sizeOf20,
  v20 := Tryz.zeroValue20,
  t37 := Tryz.underlying36,
  a37 := Tryz.isAgg36,
  z37 := Tryz.sizeOf36,
  v37 := Tryz.zeroValue36,
  t46 := Tryz.underlying78,
  a46 := Tryz.isAgg78,
  z46 := Tryz.sizeOf78,
  v46 := Tryz.zeroValue78,
  t51 := Tryz.underlying87,
  a51 := Tryz.isAgg87,
  z51 := Tryz.sizeOf87,
  v51 := Tryz.zeroValue87,
  t53 := Tryz.underlying102,
  a53 := Tryz.isAgg102,
  z53 := Tryz.sizeOf102,
  v53 := Tryz.zeroValue102,
  t171 := Tryz.underlying101,
  a171 := Tryz.isAgg101,
  z171 := Tryz.sizeOf101,
  v171 := Tryz.zeroValue101,
  t173 := Tryz.underlying105,
  a173 := Tryz.isAgg105,
  z173 := Tryz.sizeOf105,
  v173 := Tryz.zeroValue105,
  t212 := Tryz.underlying112,
  a212 := Tryz.isAgg112,
  z212 := Tryz.sizeOf112,
  v212 := Tryz.zeroValue112,
  t213 := Tryz.underlying113,
  a213 := Tryz.isAgg113,
  z213 := Tryz.sizeOf113,
  t232 := Tryz.underlying145,
  a232 := Tryz.isAgg145,
  z232 := Tryz.sizeOf145,
  v232 := Tryz.zeroValue145,
  t233 := Tryz.underlying146,
  a233 := Tryz.isAgg146,
  z233 := Tryz.sizeOf146,
  v233 := Tryz.zeroValue146,
  g17 := by kernel_rfl,
  g18 := by kernel_rfl,
  g19 := by kernel_rfl }
open Go.RowKit Go.Sort Go.Lib in
theorem Tryz.strconv_Itoa_small (i : Nat) (hi : i < 100) (w : World) :
    Calls Tryz.prog 29 #[.int .i64 i] w fun e w' => e = .returned (.string ⟨(Lib.decDigits i).toArray⟩) ∧ w' = w := Any.strconv_Itoa_small Tryz.lays171 i hi w
def Tryz.lays217_ren : Go.Shelf.Ren := ⟨fun | 217 => 66 | 266 => 79 | n => n, fun | 3 => 3 | 5 => 5 | 9 => 9 | n => n, fun | 1 => 0 | 17 => 1 | 18 => 2 | 19 => 3 | n => n⟩
theorem Tryz.lays217 : Go.Proofs.Lays.n217 Tryz.prog Tryz.lays217_ren := {
  mixed := by kernel_rfl,
  f217 := Tryz.func66.trans (congrArg some (by kernel_rfl)),
  f266 := Tryz.func79.trans (congrArg some (by kernel_rfl)),
  t3 := Tryz.underlying3,
  a3 := Tryz.isAgg3,
  z3 := Tryz.sizeOf3,
  v3 := Tryz.zeroValue3,
  t5 := Tryz.underlying5,
  a5 := Tryz.isAgg5,
  z5 := Tryz.sizeOf5,
  v5 := Tryz.zeroValue5,
  t9 := Tryz.underlying9,
  a9 := Tryz.isAgg9,
  z9 := Tryz.sizeOf9,
  v9 := Tryz.zeroValue9 }
open Go.RowKit Go.Lib in
theorem Tryz.stringslite_IndexByte (s : ByteArray) (c : Int) (w : World) :
    Calls Tryz.prog 66 #[.string s, .int .u8 c] w fun e w' => e = .returned (.int .i64 (Lib.indexByte s.data.toList c.toNat.toUInt8)) ∧ w' = w := Any.stringslite_IndexByte Tryz.lays217 s c w
def Tryz.lays224_ren : Go.Shelf.Ren := ⟨fun | 224 => 68 | n => n, fun | 3 => 3 | n => n, fun | 1 => 0 | 17 => 1 | 18 => 2 | 19 => 3 | n => n⟩
theorem Tryz.lays224 : Go.Proofs.Lays.n224 Tryz.prog Tryz.lays224_ren := {
  mixed := by kernel_rfl,
  f224 := Tryz.func68.trans (congrArg some (by kernel_rfl)),
  t3 := Tryz.underlying3,
  a3 := Tryz.isAgg3,
  z3 := Tryz.sizeOf3,
  v3 := Tryz.zeroValue3 }
open Go.RowKit Go.Lib in
theorem Tryz.bytealg_Cutover (n : Int) (h0 : 0 ≤ n) (h1 : n < 4611686018427387904) (w : World) :
    Calls Tryz.prog 68 #[.int .i64 n] w fun e w' => e = .returned (.int .i64 ((n + 16) / 8)) ∧ w' = w := Any.bytealg_Cutover Tryz.lays224 n h0 h1 w
def Tryz.lays314_ren : Go.Shelf.Ren := ⟨fun | 314 => 80 | n => n, fun | 3 => 3 | 4 => 4 | 5 => 5 | 9 => 9 | 46 => 78 | 51 => 87 | n => n, fun | 1 => 0 | 17 => 1 | 18 => 2 | 19 => 3 | n => n⟩
theorem Tryz.lays314 : Go.Proofs.Lays.n314 Tryz.prog Tryz.lays314_ren := {
  mixed := by kernel_rfl,
  f314 := Tryz.func80.trans (congrArg some (by kernel_rfl)),
  t3 := Tryz.underlying3,
  a3 := Tryz.isAgg3,
  z3 := Tryz.sizeOf3,
  v3 := Tryz.zeroValue3,
  t4 := Tryz.underlying4,
  a4 := Tryz.isAgg4,
  z4 := Tryz.sizeOf4,
  v4 := Tryz.zeroValue4,
  t5 := Tryz.underlying5,
  a5 := Tryz.isAgg5,
  z5 := Tryz.sizeOf5,
  v5 := Tryz.zeroValue5,
  t9 := Tryz.underlying9,
  a9 := Tryz.isAgg9,
  z9 := Tryz.sizeOf9,
  v9 := Tryz.zeroValue9,
  t46 := Tryz.underlying78,
  a46 := Tryz.isAgg78,
  z46 := Tryz.sizeOf78,
  v46 := Tryz.zeroValue78,
  t51 := Tryz.underlying87,
  a51 := Tryz.isAgg87,
  z51 := Tryz.sizeOf87,
  v51 := Tryz.zeroValue87 }
open Go.RowKit Go.Lib in
theorem Tryz.bytealg_hashStr (sep : ByteArray) (hs : sep.size < 4294967281) (w : World) :
    Calls Tryz.prog 80 #[.string sep] w fun e w' => e = .returned (.tuple #[.int .u32 (RK.H sep.data.toList % 4294967296), .int .u32 (16777619 ^ sep.size % 4294967296)]) ∧ w' = w := Any.bytealg_hashStr Tryz.lays314 sep hs w
def Tryz.lays267_ren : Go.Shelf.Ren := ⟨fun | 267 => 69 | 314 => 80 | n => n, fun | 3 => 3 | 4 => 4 | 5 => 5 | 9 => 9 | 46 => 78 | 51 => 87 | 146 => 107 | n => n, fun | 1 => 0 | 17 => 1 | 18 => 2 | 19 => 3 | n => n⟩
theorem Tryz.lays267 : Go.Proofs.Lays.n267 Tryz.prog Tryz.lays267_ren := {
  mixed := by kernel_rfl,
  f267 := Tryz.func69.trans (congrArg some (by kernel_rfl)),
  f314 := Tryz.func80.trans (congrArg some (by kernel_rfl)),
  t3 := Tryz.underlying3,
  a3 := Tryz.isAgg3,
  z3 := Tryz.sizeOf3,
  v3 := Tryz.zeroValue3,
  t4 := Tryz.underlying4,
  a4 := Tryz.isAgg4,
  z4 := Tryz.sizeOf4,
  v4 := Tryz.zeroValue4,
  t5 := Tryz.underlying5,
  a5 := Tryz.isAgg5,
  z5 := Tryz.sizeOf5,
  v5 := Tryz.zeroValue5,
  t9 := Tryz.underlying9,
  a9 := Tryz.isAgg9,
  z9 := Tryz.sizeOf9,
  v9 := Tryz.zeroValue9,
  t46 := Tryz.underlying78,
  a46 := Tryz.isAgg78,
  z46 := Tryz.sizeOf78,
  v46 := Tryz.zeroValue78,
  t51 := Tryz.underlying87,
  a51 := Tryz.isAgg87,
  z51 := Tryz.sizeOf87,
  v51 := Tryz.zeroValue87,
  t146 := Tryz.underlying107,
  a146 := Tryz.isAgg107,
  z146 := Tryz.sizeOf107,
  v146 := Tryz.zeroValue107 }
open Go.RowKit Go.Lib in
theorem Tryz.bytealg_IndexRabinKarp (s sep : ByteArray) (h1 : 1 ≤ sep.size) (h2 : sep.size ≤ s.size) (hs : s.size < 4294967281) (w : World) :
    Calls Tryz.prog 69 #[.string s, .string sep] w fun e w' => e = .returned (.int .i64 (Lib.index s.data.toList sep.data.toList)) ∧ w' = w := Any.bytealg_IndexRabinKarp Tryz.lays267 s sep h1 h2 hs w
def Tryz.lays219_ren : Go.Shelf.Ren := ⟨fun | 217 => 66 | 219 => 48 | 224 => 68 | 225 => 67 | 266 => 79 | 267 => 69 | 314 => 80 | n => n, fun | 3 => 3 | 4 => 4 | 5 => 5 | 9 => 9 | 46 => 78 | 51 => 87 | 146 => 107 | n => n, fun | 1 => 0 | 17 => 1 | 18 => 2 | 19 => 3 | n => n⟩
theorem Tryz.lays219 : Go.Proofs.Lays.n219 Tryz.prog Tryz.lays219_ren := {
  mixed := by kernel_rfl,
  f217 := Tryz.func66.trans (congrArg some (by kernel_rfl)),
  f219 := Tryz.func48.trans (congrArg some (by kernel_rfl)),
  f224 := Tryz.func68.trans (congrArg some (by kernel_rfl)),
  f225 := Tryz.func67.trans (congrArg some (by kernel_rfl)),
  f266 := Tryz.func79.trans (congrArg some (by kernel_rfl)),
  f267 := Tryz.func69.trans (congrArg some (by kernel_rfl)),
  f314 := Tryz.func80.trans (congrArg some (by kernel_rfl)),
  t3 := Tryz.underlying3,
  a3 := Tryz.isAgg3,
  z3 := Tryz.sizeOf3,
  v3 := Tryz.zeroValue3,
  t4 := Tryz.underlying4,
  a4 := Tryz.isAgg4,
  z4 := Tryz.sizeOf4,
  v4 := Tryz.zeroValue4,
  t5 := Tryz.underlying5,
  a5 := Tryz.isAgg5,
  z5 := Tryz.sizeOf5,
  v5 := Tryz.zeroValue5,
  t9 := Tryz.underlying9,
  a9 := Tryz.isAgg9,
  z9 := Tryz.sizeOf9,
  v9 := Tryz.zeroValue9,
  t46 := Tryz.underlying78,
  a46 := Tryz.isAgg78,
  z46 := Tryz.sizeOf78,
  v46 := Tryz.zeroValue78,
  t51 := Tryz.underlying87,
  a51 := Tryz.isAgg87,
  z51 := Tryz.sizeOf87,
  v51 := Tryz.zeroValue87,
  t146 := Tryz.underlying107,
  a146 := Tryz.isAgg107,
  z146 := Tryz.sizeOf107,
  v146 := Tryz.zeroValue107,
  g1 := by kernel_rfl }
open Go.RowKit Go.Lib in
theorem Tryz.stringslite_Index_one (s : ByteArray) (c : UInt8) (w : World) :
    Calls Tryz.prog 48 #[.string s, .string ⟨#[c]⟩] w fun e w' => e = .returned (.int .i64 (Lib.indexByte s.data.toList c)) ∧ w' = w := Any.stringslite_Index_one Tryz.lays219 s c w
open Go.RowKit Go.Lib in
theorem Tryz.stringslite_Index (s sub : ByteArray) (m : Int) (w : World) (hs : s.size < 4294967281) (hm : w.cell? ⟨0, 0, none⟩ = some (.int .i64 m)) :
    Calls Tryz.prog 48 #[.string s, .string sub] w fun e w' => e = .returned (.int .i64 (Lib.index s.data.toList sub.data.toList)) ∧ w' = w := Any.stringslite_Index Tryz.lays219 s sub m w hs hm
def Tryz.lays143_ren : Go.Shelf.Ren := ⟨fun | 143 => 153 | 217 => 66 | 219 => 48 | 224 => 68 | 225 => 67 | 266 => 79 | 267 => 69 | 314 => 80 | n => n, fun | 3 => 3 | 4 => 4 | 5 => 5 | 9 => 9 | 46 => 78 | 51 => 87 | 146 => 107 | n => n, fun | 1 => 0 | 17 => 1 | 18 => 2 | 19 => 3 | n => n⟩
theorem Tryz.lays143 : Go.Proofs.Lays.n143 Tryz.prog Tryz.lays143_ren := {
  mixed := by kernel_rfl,
  f143 := Tryz.func153.trans (congrArg some (by kernel_rfl)),
  f217 := Tryz.func66.trans (congrArg some (by kernel_rfl)),
  f219 := Tryz.func48.trans (congrArg some (by kernel_rfl)),
  f224 := Tryz.func68.trans (congrArg some (by kernel_rfl)),
  f225 := Tryz.func67.trans (congrArg some (by kernel_rfl)),
  f266 := Tryz.func79.trans (congrArg some (by kernel_rfl)),
  f267 := Tryz.func69.trans (congrArg some (by kernel_rfl)),
  f314 := Tryz.func80.trans (congrArg some (by kernel_rfl)),
  t3 := Tryz.underlying3,
  a3 := Tryz.isAgg3,
  z3 := Tryz.sizeOf3,
  v3 := Tryz.zeroValue3,
  t4 := Tryz.underlying4,
  a4 := Tryz.isAgg4,
  z4 := Tryz.sizeOf4,
  v4 := Tryz.zeroValue4,
  t5 := Tryz.underlying5,
  a5 := Tryz.isAgg5,
  z5 := Tryz.sizeOf5,
  v5 := Tryz.zeroValue5,
  t9 := Tryz.underlying9,
  a9 := Tryz.isAgg9,
  z9 := Tryz.sizeOf9,
  v9 := Tryz.zeroValue9,
  t46 := Tryz.underlying78,
  a46 := Tryz.isAgg78,
  z46 := Tryz.sizeOf78,
  v46 := Tryz.zeroValue78,
  t51 := Tryz.underlying87,
  a51 := Tryz.isAgg87,
  z51 := Tryz.sizeOf87,
  v51 := Tryz.zeroValue87,
  t146 := Tryz.underlying107,
  a146 := Tryz.isAgg107,
  z146 := Tryz.sizeOf107,
  v146 := Tryz.zeroValue107,
  g1 := by kernel_rfl }
open Go.RowKit Go.Lib in
theorem Tryz.strings_Index_one (s : ByteArray) (c : UInt8) (w : World) :
    Calls Tryz.prog 153 #[.string s, .string ⟨#[c]⟩] w fun e w' => e = .returned (.int .i64 (Lib.indexByte s.data.toList c)) ∧ w' = w := Any.strings_Index_one Tryz.lays143 s c w
open Go.RowKit Go.Lib in
theorem Tryz.strings_Index (s sub : ByteArray) (m : Int) (w : World) (hs : s.size < 4294967281) (hm : w.cell? ⟨0, 0, none⟩ = some (.int .i64 m)) :
    Calls Tryz.prog 153 #[.string s, .string sub] w fun e w' => e = .returned (.int .i64 (Lib.index s.data.toList sub.data.toList)) ∧ w' = w := Any.strings_Index Tryz.lays143 s sub m w hs hm
def Tryz.lays220_ren : Go.Shelf.Ren := ⟨fun | 217 => 66 | 219 => 48 | 220 => 30 | 224 => 68 | 225 => 67 | 266 => 79 | 267 => 69 | 314 => 80 | n => n, fun | 3 => 3 | 4 => 4 | 5 => 5 | 9 => 9 | 46 => 78 | 51 => 87 | 146 => 107 | n => n, fun | 1 => 0 | 17 => 1 | 18 => 2 | 19 => 3 | n => n⟩
theorem Tryz.lays220 : Go.Proofs.Lays.n220 Tryz.prog Tryz.lays220_ren := {
  mixed := by kernel_rfl,
  f217 := Tryz.func66.trans (congrArg some (by kernel_rfl)),
  f219 := Tryz.func48.trans (congrArg some (by kernel_rfl)),
  f220 := Tryz.func30.trans (congrArg some (by kernel_rfl)),
  f224 := Tryz.func68.trans (congrArg some (by kernel_rfl)),
  f225 := Tryz.func67.trans (congrArg some (by kernel_rfl)),
  f266 := Tryz.func79.trans (congrArg some (by kernel_rfl)),
  f267 := Tryz.func69.trans (congrArg some (by kernel_rfl)),
  f314 := Tryz.func80.trans (congrArg some (by kernel_rfl)),
  t3 := Tryz.underlying3,
  a3 := Tryz.isAgg3,
  z3 := Tryz.sizeOf3,
  v3 := Tryz.zeroValue3,
  t4 := Tryz.underlying4,
  a4 := Tryz.isAgg4,
  z4 := Tryz.sizeOf4,
  v4 := Tryz.zeroValue4,
  t5 := Tryz.underlying5,
  a5 := Tryz.isAgg5,
  z5 := Tryz.sizeOf5,
  v5 := Tryz.zeroValue5,
  t9 := Tryz.underlying9,
  a9 := Tryz.isAgg9,
  z9 := Tryz.sizeOf9,
  v9 := Tryz.zeroValue9,
  t46 := Tryz.underlying78,
  a46 := Tryz.isAgg78,
  z46 := Tryz.sizeOf78,
  v46 := Tryz.zeroValue78,
  t51 := Tryz.underlying87,
  a51 := Tryz.isAgg87,
  z51 := Tryz.sizeOf87,
  v51 := Tryz.zeroValue87,
  t146 := Tryz.underlying107,
  a146 := Tryz.isAgg107,
  z146 := Tryz.sizeOf107,
  v146 := Tryz.zeroValue107,
  g1 := by kernel_rfl }
open Go.RowKit Go.Lib in
theorem Tryz.stringslite_Cut (s sep : ByteArray) (m : Int) (w : World) (hs : s.size < 4294967281) (hm : w.cell? ⟨0, 0, none⟩ = some (.int .i64 m)) :
    Calls Tryz.prog 30 #[.string s, .string sep] w fun e w' => e = .returned (.tuple #[.string ⟨(Lib.cut s.data.toList sep.data.toList).1.toArray⟩, .string ⟨(Lib.cut s.data.toList sep.data.toList).2.1.toArray⟩, .bool (Lib.cut s.data.toList sep.data.toList).2.2]) ∧ ∃ n, w' = w.drewN n := Any.stringslite_Cut Tryz.lays220 s sep m w hs hm
def Tryz.lays145_ren : Go.Shelf.Ren := ⟨fun | 145 => 18 | 217 => 66 | 219 => 48 | 220 => 30 | 224 => 68 | 225 => 67 | 266 => 79 | 267 => 69 | 314 => 80 | n => n, fun | 3 => 3 | 4 => 4 | 5 => 5 | 9 => 9 | 46 => 78 | 51 => 87 | 59 => 39 | 146 => 107 | n => n, fun | 1 => 0 | 17 => 1 | 18 => 2 | 19 => 3 | n => n⟩
theorem Tryz.lays145 : Go.Proofs.Lays.n145 Tryz.prog Tryz.lays145_ren := {
  mixed := by kernel_rfl,
  f145 := Tryz.func18.trans (congrArg some (by kernel_rfl)),
  f217 := Tryz.func66.trans (congrArg some (by kernel_rfl)),
  f219 := Tryz.func48.trans (congrArg some (by kernel_rfl)),
  f220 := Tryz.func30.trans (congrArg some (by kernel_rfl)),
  f224 := Tryz.func68.trans (congrArg some (by kernel_rfl)),
  f225 := Tryz.func67.trans (congrArg some (by kernel_rfl)),
  f266 := Tryz.func79.trans (congrArg some (by kernel_rfl)),
  f267 := Tryz.func69.trans (congrArg some (by kernel_rfl)),
  f314 := Tryz.func80.trans (congrArg some (by kernel_rfl)),
  t3 := Tryz.underlying3,
  a3 := Tryz.isAgg3,
  z3 := Tryz.sizeOf3,
  v3 := Tryz.zeroValue3,
  t4 := Tryz.underlying4,
  a4 := Tryz.isAgg4,
  z4 := Tryz.sizeOf4,
  v4 := Tryz.zeroValue4,
  t5 := Tryz.underlying5,
  a5 := Tryz.isAgg5,
  z5 := Tryz.sizeOf5,
  v5 := Tryz.zeroValue5,
  t9 := Tryz.underlying9,
  a9 := Tryz.isAgg9,
  z9 := Tryz.sizeOf9,
  v9 := Tryz.zeroValue9,
  t46 := Tryz.underlying78,
  a46 := Tryz.isAgg78,
  z46 := Tryz.sizeOf78,
  v46 := Tryz.zeroValue78,
  t51 := Tryz.underlying87,
  a51 := Tryz.isAgg87,
  z51 := Tryz.sizeOf87,
  v51 := Tryz.zeroValue87,
  t59 := Tryz.underlying39,
  a59 := Tryz.isAgg39,
  z59 := Tryz.sizeOf39,
  v59 := Tryz.zeroValue39,
  t146 := Tryz.underlying107,
  a146 := Tryz.isAgg107,
  z146 := Tryz.sizeOf107,
  v146 := Tryz.zeroValue107,
  g1 := by kernel_rfl }
open Go.RowKit Go.Lib in
theorem Tryz.strings_Cut (s sep : ByteArray) (m : Int) (w : World) (hs : s.size < 4294967281) (hm : w.cell? ⟨0, 0, none⟩ = some (.int .i64 m)) :
    Calls Tryz.prog 18 #[.string s, .string sep] w fun e w' => e = .returned (.tuple #[.string ⟨(Lib.cut s.data.toList sep.data.toList).1.toArray⟩, .string ⟨(Lib.cut s.data.toList sep.data.toList).2.1.toArray⟩, .bool (Lib.cut s.data.toList sep.data.toList).2.2]) ∧ ∃ n, w' = w.drewN n := Any.strings_Cut Tryz.lays145 s sep m w hs hm
def Tryz.lays138_ren : Go.Shelf.Ren := ⟨fun | 138 => 150 | 143 => 153 | 195 => 151 | 217 => 66 | 218 => 152 | 219 => 48 | 224 => 68 | 225 => 67 | 266 => 79 | 267 => 69 | 314 => 80 | n => n, fun | 0 => 0 | 3 => 3 | 4 => 4 | 5 => 5 | 9 => 9 | 46 => 78 | 51 => 87 | 146 => 107 | n => n, fun | 1 => 0 | 17 => 1 | 18 => 2 | 19 => 3 | n => n⟩
theorem Tryz.lays138 : Go.Proofs.Lays.n138 Tryz.prog Tryz.lays138_ren := {
  mixed := by kernel_rfl,
  f138 := Tryz.func150.trans (congrArg some (by kernel_rfl)),
  f143 := Tryz.func153.trans (congrArg some (by kernel_rfl)),
  f195 := Tryz.func151.trans (congrArg some (by kernel_rfl)),
  f217 := Tryz.func66.trans (congrArg some (by kernel_rfl)),
  f218 := Tryz.func152.trans (congrArg some (by kernel_rfl)),
  f219 := Tryz.func48.trans (congrArg some (by kernel_rfl)),
  f224 := Tryz.func68.trans (congrArg some (by kernel_rfl)),
  f225 := Tryz.func67.trans (congrArg some (by kernel_rfl)),
  f266 := Tryz.func79.trans (congrArg some (by kernel_rfl)),
  f267 := Tryz.func69.trans (congrArg some (by kernel_rfl)),
  f314 := Tryz.func80.trans (congrArg some (by kernel_rfl)),
  t0 := Tryz.underlying0,
  a0 := Tryz.isAgg0,
  z0 := Tryz.sizeOf0,
  v0 := Tryz.zeroValue0,
  t3 := Tryz.underlying3,
  a3 := Tryz.isAgg3,
  z3 := Tryz.sizeOf3,
  v3 := Tryz.zeroValue3,
  t4 := Tryz.underlying4,
  a4 := Tryz.isAgg4,
  z4 := Tryz.sizeOf4,
  v4 := Tryz.zeroValue4,
  t5 := Tryz.underlying5,
  a5 := Tryz.isAgg5,
  z5 := Tryz.sizeOf5,
  v5 := Tryz.zeroValue5,
  t9 := Tryz.underlying9,
  a9 := Tryz.isAgg9,
  z9 := Tryz.sizeOf9,
  v9 := Tryz.zeroValue9,
  t46 := Tryz.underlying78,
  a46 := Tryz.isAgg78,
  z46 := Tryz.sizeOf78,
  v46 := Tryz.zeroValue78,
  t51 := Tryz.underlying87,
  a51 := Tryz.isAgg87,
  z51 := Tryz.sizeOf87,
  v51 := Tryz.zeroValue87,
  t146 := Tryz.underlying107,
  a146 := Tryz.isAgg107,
  z146 := Tryz.sizeOf107,
  v146 := Tryz.zeroValue107,
  g1 := by kernel_rfl }
open Go.RowKit Go.Lib in
theorem Tryz.strings_Count_one (s : ByteArray) (c : UInt8) (w : World) :
    Calls Tryz.prog 150 #[.string s, .string ⟨#[c]⟩] w fun e w' => e = .returned (.int .i64 (Lib.countByte s.data.toList c)) ∧ w' = w := Any.strings_Count_one Tryz.lays138 s c w
open Go.RowKit Go.Lib in
theorem Tryz.strings_Count (s sub : ByteArray) (m : Int) (w : World) (hs : s.size < 4294967281) (hm : w.cell? ⟨0, 0, none⟩ = some (.int .i64 m)) (h2 : 2 ≤ sub.size) :
    Calls Tryz.prog 150 #[.string s, .string sub] w fun e w' => e = .returned (.int .i64 (Lib.countB s sub)) ∧ w' = w := Any.strings_Count Tryz.lays138 s sub m w hs hm h2
def Tryz.lays206_ren : Go.Shelf.Ren := ⟨fun | 206 => 70 | n => n, fun | 3 => 3 | 4 => 4 | 9 => 9 | n => n, fun | 1 => 0 | 17 => 1 | 18 => 2 | 19 => 3 | n => n⟩
theorem Tryz.lays206 : Go.Proofs.Lays.n206 Tryz.prog Tryz.lays206_ren := {
  mixed := by kernel_rfl,
  f206 := Tryz.func70.trans (congrArg some (by kernel_rfl)),
  t3 := Tryz.underlying3,
  a3 := Tryz.isAgg3,
  z3 := Tryz.sizeOf3,
  v3 := Tryz.zeroValue3,
  t4 := Tryz.underlying4,
  a4 := Tryz.isAgg4,
  z4 := Tryz.sizeOf4,
  v4 := Tryz.zeroValue4,
  t9 := Tryz.underlying9,
  a9 := Tryz.isAgg9,
  z9 := Tryz.sizeOf9,
  v9 := Tryz.zeroValue9 }
open Go.RowKit Go.Lib in
theorem Tryz.stringslite_HasPrefix (s p : ByteArray) (w : World) :
    Calls Tryz.prog 70 #[.string s, .string p] w fun e w' => e = .returned (.bool (Lib.hasPrefix s.data.toList p.data.toList)) ∧ w' = w := Any.stringslite_HasPrefix Tryz.lays206 s p w
def Tryz.lays99_ren : Go.Shelf.Ren := ⟨fun | 99 => 111 | 206 => 70 | n => n, fun | 3 => 3 | 4 => 4 | 9 => 9 | n => n, fun | 1 => 0 | 17 => 1 | 18 => 2 | 19 => 3 | n => n⟩
theorem Tryz.lays99 : Go.Proofs.Lays.n99 Tryz.prog Tryz.lays99_ren := {
  mixed := by kernel_rfl,
  f99 := Tryz.func111.trans (congrArg some (by kernel_rfl)),
  f206 := Tryz.func70.trans (congrArg some (by kernel_rfl)),
  t3 := Tryz.underlying3,
  a3 := Tryz.isAgg3,
  z3 := Tryz.sizeOf3,
  v3 := Tryz.zeroValue3,
  t4 := Tryz.underlying4,
  a4 := Tryz.isAgg4,
  z4 := Tryz.sizeOf4,
  v4 := Tryz.zeroValue4,
  t9 := Tryz.underlying9,
  a9 := Tryz.isAgg9,
  z9 := Tryz.sizeOf9,
  v9 := Tryz.zeroValue9 }
open Go.RowKit Go.Lib in
theorem Tryz.strings_HasPrefix (s p : ByteArray) (w : World) :
    Calls Tryz.prog 111 #[.string s, .string p] w fun e w' => e = .returned (.bool (Lib.hasPrefix s.data.toList p.data.toList)) ∧ w' = w := Any.strings_HasPrefix Tryz.lays99 s p w
def Tryz.lays208_ren : Go.Shelf.Ren := ⟨fun | 206 => 70 | 208 => 50 | n => n, fun | 3 => 3 | 4 => 4 | 9 => 9 | n => n, fun | 1 => 0 | 17 => 1 | 18 => 2 | 19 => 3 | n => n⟩
theorem Tryz.lays208 : Go.Proofs.Lays.n208 Tryz.prog Tryz.lays208_ren := {
  mixed := by kernel_rfl,
  f206 := Tryz.func70.trans (congrArg some (by kernel_rfl)),
  f208 := Tryz.func50.trans (congrArg some (by kernel_rfl)),
  t3 := Tryz.underlying3,
  a3 := Tryz.isAgg3,
  z3 := Tryz.sizeOf3,
  v3 := Tryz.zeroValue3,
  t4 := Tryz.underlying4,
  a4 := Tryz.isAgg4,
  z4 := Tryz.sizeOf4,
  v4 := Tryz.zeroValue4,
  t9 := Tryz.underlying9,
  a9 := Tryz.isAgg9,
  z9 := Tryz.sizeOf9,
  v9 := Tryz.zeroValue9 }
open Go.RowKit Go.Lib in
theorem Tryz.stringslite_TrimPrefix (s p : ByteArray) (w : World) :
    Calls Tryz.prog 50 #[.string s, .string p] w fun e w' => e = .returned (.string ⟨(Lib.trimPrefix s.data.toList p.data.toList).toArray⟩) ∧ w' = w := Any.stringslite_TrimPrefix Tryz.lays208 s p w
def Tryz.lays101_ren : Go.Shelf.Ren := ⟨fun | 101 => 32 | 206 => 70 | 208 => 50 | n => n, fun | 3 => 3 | 4 => 4 | 9 => 9 | n => n, fun | 1 => 0 | 17 => 1 | 18 => 2 | 19 => 3 | n => n⟩
theorem Tryz.lays101 : Go.Proofs.Lays.n101 Tryz.prog Tryz.lays101_ren := {
  mixed := by kernel_rfl,
  f101 := Tryz.func32.trans (congrArg some (by kernel_rfl)),
  f206 := Tryz.func70.trans (congrArg some (by kernel_rfl)),
  f208 := Tryz.func50.trans (congrArg some (by kernel_rfl)),
  t3 := Tryz.underlying3,
  a3 := Tryz.isAgg3,
  z3 := Tryz.sizeOf3,
  v3 := Tryz.zeroValue3,
  t4 := Tryz.underlying4,
  a4 := Tryz.isAgg4,
  z4 := Tryz.sizeOf4,
  v4 := Tryz.zeroValue4,
  t9 := Tryz.underlying9,
  a9 := Tryz.isAgg9,
  z9 := Tryz.sizeOf9,
  v9 := Tryz.zeroValue9 }
open Go.RowKit Go.Lib in
theorem Tryz.strings_TrimPrefix (s p : ByteArray) (w : World) :
    Calls Tryz.prog 32 #[.string s, .string p] w fun e w' => e = .returned (.string ⟨(Lib.trimPrefix s.data.toList p.data.toList).toArray⟩) ∧ w' = w := Any.strings_TrimPrefix Tryz.lays101 s p w
open Go.RowKit Go.Lib in
theorem Tryz.strings_Count_any (s sep : ByteArray) (m : Int) (w : World) (hs : s.size < 4294967281) (hm : w.cell? ⟨0, 0, none⟩ = some (.int .i64 m)) (h1 : 1 ≤ sep.size) :
    Calls Tryz.prog 150 #[.string s, .string sep] w fun e w' => e = .returned (.int .i64 (Lib.countB s sep)) ∧ w' = w := Any.strings_Count_any Tryz.lays138 s sep m w hs hm h1
def Tryz.lays152_ren : Go.Shelf.Ren := ⟨fun | 119 => 71 | 137 => 62 | 152 => 51 | 217 => 66 | 224 => 68 | 225 => 67 | 266 => 79 | n => n, fun | 0 => 0 | 3 => 3 | 4 => 4 | 5 => 5 | 9 => 9 | 21 => 21 | 46 => 78 | n => n, fun | 1 => 0 | 17 => 1 | 18 => 2 | 19 => 3 | n => n⟩
theorem Tryz.lays152 : Go.Proofs.Lays.n152 Tryz.prog Tryz.lays152_ren := {
  mixed := by kernel_rfl,
  f119 := Tryz.func71.trans (congrArg some (by kernel_rfl)),
  f137 := Tryz.func62.trans (congrArg some (by kernel_rfl)),
  f152 := Tryz.func51.trans (congrArg some (by kernel_rfl)),
  f217 := Tryz.func66.trans (congrArg some (by kernel_rfl)),
  f224 := Tryz.func68.trans (congrArg some (by kernel_rfl)),
  f225 := Tryz.func67.trans (congrArg some (by kernel_rfl)),
  f266 := Tryz.func79.trans (congrArg some (by kernel_rfl)),
  t0 := Tryz.underlying0,
  a0 := Tryz.isAgg0,
  z0 := Tryz.sizeOf0,
  v0 := Tryz.zeroValue0,
  t3 := Tryz.underlying3,
  a3 := Tryz.isAgg3,
  z3 := Tryz.sizeOf3,
  v3 := Tryz.zeroValue3,
  t4 := Tryz.underlying4,
  a4 := Tryz.isAgg4,
  z4 := Tryz.sizeOf4,
  v4 := Tryz.zeroValue4,
  t5 := Tryz.underlying5,
  a5 := Tryz.isAgg5,
  z5 := Tryz.sizeOf5,
  v5 := Tryz.zeroValue5,
  t9 := Tryz.underlying9,
  a9 := Tryz.isAgg9,
  z9 := Tryz.sizeOf9,
  v9 := Tryz.zeroValue9,
  t21 := Tryz.underlying21,
  a21 := Tryz.isAgg21,
  z21 := Tryz.sizeOf21,
  v21 := Tryz.zeroValue21,
  t46 := Tryz.underlying78,
  a46 := Tryz.isAgg78,
  z46 := Tryz.sizeOf78,
  v46 := Tryz.zeroValue78 }
open Go.RowKit Go.Lib in
theorem Tryz.strings_IndexRune_ascii (s : ByteArray) (r : Int) (w : World) (h0 : 0 ≤ r) (h1 : r < 128) :
    Calls Tryz.prog 51 #[.string s, .int .i32 r] w fun e w' => e = .returned (.int .i64 (Lib.indexByte s.data.toList r.toNat.toUInt8)) ∧ w' = w := Any.strings_IndexRune_ascii Tryz.lays152 s r w h0 h1
open Go.RowKit Go.Lib in
theorem Tryz.utf8_RuneCountInString_ascii (s : ByteArray) (w : World) (hs : s.size < 4294967281) (hascii : ∀ (j : Nat) b, s.data.toList[j]? = some b → b.toNat < 128) :
    Calls Tryz.prog 151 #[.string s] w fun e w' => e = .returned (.int .i64 s.size) ∧ w' = w.iter s s.size := Any.utf8_RuneCountInString_ascii Tryz.lays195 s w hs hascii
def Tryz.lays226_ren : Go.Shelf.Ren := ⟨fun | 226 => 52 | n => n, fun | 3 => 3 | 4 => 4 | n => n, fun | 1 => 0 | 17 => 1 | 18 => 2 | 19 => 3 | n => n⟩
theorem Tryz.lays226 : Go.Proofs.Lays.n226 Tryz.prog Tryz.lays226_ren := {
  mixed := by kernel_rfl,
  f226 := Tryz.func52.trans (congrArg some (by kernel_rfl)),
  t3 := Tryz.underlying3,
  a3 := Tryz.isAgg3,
  z3 := Tryz.sizeOf3,
  v3 := Tryz.zeroValue3,
  t4 := Tryz.underlying4,
  a4 := Tryz.isAgg4,
  z4 := Tryz.sizeOf4,
  v4 := Tryz.zeroValue4 }
open Go.RowKit Go.Lib in
theorem Tryz.strings_shouldUseASCIISet (n : Int) (w : World) :
    Calls Tryz.prog 52 #[.int .i64 n] w fun e w' => e = .returned (.bool (decide (8 < n))) ∧ w' = w := Any.strings_shouldUseASCIISet Tryz.lays226 n w
def Tryz.lays153_ren : Go.Shelf.Ren := ⟨fun | 119 => 71 | 137 => 62 | 152 => 51 | 153 => 33 | 217 => 66 | 224 => 68 | 225 => 67 | 226 => 52 | 227 => 53 | 228 => 54 | 266 => 79 | n => n, fun | 0 => 0 | 3 => 3 | 4 => 4 | 5 => 5 | 9 => 9 | 21 => 21 | 46 => 78 | 116 => 69 | 117 => 70 | 124 => 83 | n => n, fun | 1 => 0 | 17 => 1 | 18 => 2 | 19 => 3 | n => n⟩
theorem Tryz.lays153 : Go.Proofs.Lays.n153 Tryz.prog Tryz.lays153_ren := {
  mixed := by kernel_rfl,
  f119 := Tryz.func71.trans (congrArg some (by kernel_rfl)),
  f137 := Tryz.func62.trans (congrArg some (by kernel_rfl)),
  f152 := Tryz.func51.trans (congrArg some (by kernel_rfl)),
  f153 := Tryz.func33.trans (congrArg some (by kernel_rfl)),
  f217 := Tryz.func66.trans (congrArg some (by kernel_rfl)),
  f224 := Tryz.func68.trans (congrArg some (by kernel_rfl)),
  f225 := Tryz.func67.trans (congrArg some (by kernel_rfl)),
  f226 := Tryz.func52.trans (congrArg some (by kernel_rfl)),
  f227 := Tryz.func53.trans (congrArg some (by kernel_rfl)),
  f228 := Tryz.func54.trans (congrArg some (by kernel_rfl)),
  f266 := Tryz.func79.trans (congrArg some (by kernel_rfl)),
  t0 := Tryz.underlying0,
  a0 := Tryz.isAgg0,
  z0 := Tryz.sizeOf0,
  v0 := Tryz.zeroValue0,
  t3 := Tryz.underlying3,
  a3 := Tryz.isAgg3,
  z3 := Tryz.sizeOf3,
  v3 := Tryz.zeroValue3,
  t4 := Tryz.underlying4,
  a4 := Tryz.isAgg4,
  z4 := Tryz.sizeOf4,
  v4 := Tryz.zeroValue4,
  t5 := Tryz.underlying5,
  a5 := Tryz.isAgg5,
  z5 := Tryz.sizeOf5,
  v5 := Tryz.zeroValue5,
  t9 := Tryz.underlying9,
  a9 := Tryz.isAgg9,
  z9 := Tryz.sizeOf9,
  v9 := Tryz.zeroValue9,
  t21 := Tryz.underlying21,
  a21 := Tryz.isAgg21,
  z21 := Tryz.sizeOf21,
  v21 := Tryz.zeroValue21,
  t46 := Tryz.underlying78,
  a46 := Tryz.isAgg78,
  z46 := Tryz.sizeOf78,
  v46 := Tryz.zeroValue78,
  t116 := Tryz.underlying69,
  a116 := Tryz.isAgg69,
  z116 := Tryz.sizeOf69,
  t117 := Tryz.underlying70,
  a117 := Tryz.isAgg70,
  z117 := Tryz.sizeOf70,
  v117 := Tryz.zeroValue70,
  t124 := Tryz.underlying83,
  a124 := Tryz.isAgg83,
  z124 := Tryz.sizeOf83,
  v124 := Tryz.zeroValue83 }
open Go.RowKit Go.Lib in
theorem Tryz.strings_IndexAny_none (s chars : ByteArray) (w : World) (h0 : chars.size = 0) :
    Calls Tryz.prog 33 #[.string s, .string chars] w fun e w' => e = .returned (.int .i64 (Lib.indexAny s.data.toList chars.data.toList)) ∧ w' = w := Any.strings_IndexAny_none Tryz.lays153 s chars w h0
open Go.RowKit Go.Lib in
theorem Tryz.strings_IndexAny_one (s chars : ByteArray) (w : World) (h1 : chars.size = 1) (hascii : ∀ (j : Nat) b, chars.data.toList[j]? = some b → b.toNat < 128) :
    Calls Tryz.prog 33 #[.string s, .string chars] w fun e w' => e = .returned (.int .i64 (Lib.indexAny s.data.toList chars.data.toList)) ∧ w' = w := Any.strings_IndexAny_one Tryz.lays153 s chars w h1 hascii
open Go.RowKit Go.Lib in
theorem Tryz.strings_IndexAny_short (s chars : ByteArray) (w : World) (h2 : 2 ≤ chars.size) (h8 : s.size ≤ 8) (hascii : ∀ (j : Nat) b, s.data.toList[j]? = some b → b.toNat < 128) :
    Calls Tryz.prog 33 #[.string s, .string chars] w fun e w' => e = .returned (.int .i64 (Lib.indexAny s.data.toList chars.data.toList)) ∧ ∃ pos, w' = w.iter s pos := Any.strings_IndexAny_short Tryz.lays153 s chars w h2 h8 hascii
def Tryz.lays227_ren : Go.Shelf.Ren := ⟨fun | 227 => 53 | n => n, fun | 0 => 0 | 3 => 3 | 4 => 4 | 5 => 5 | 9 => 9 | 116 => 69 | n => n, fun | 1 => 0 | 17 => 1 | 18 => 2 | 19 => 3 | n => n⟩
theorem Tryz.lays227 : Go.Proofs.Lays.n227 Tryz.prog Tryz.lays227_ren := {
  mixed := by kernel_rfl,
  f227 := Tryz.func53.trans (congrArg some (by kernel_rfl)),
  t0 := Tryz.underlying0,
  a0 := Tryz.isAgg0,
  z0 := Tryz.sizeOf0,
  v0 := Tryz.zeroValue0,
  t3 := Tryz.underlying3,
  a3 := Tryz.isAgg3,
  z3 := Tryz.sizeOf3,
  v3 := Tryz.zeroValue3,
  t4 := Tryz.underlying4,
  a4 := Tryz.isAgg4,
  z4 := Tryz.sizeOf4,
  v4 := Tryz.zeroValue4,
  t5 := Tryz.underlying5,
  a5 := Tryz.isAgg5,
  z5 := Tryz.sizeOf5,
  v5 := Tryz.zeroValue5,
  t9 := Tryz.underlying9,
  a9 := Tryz.isAgg9,
  z9 := Tryz.sizeOf9,
  v9 := Tryz.zeroValue9,
  t116 := Tryz.underlying69,
  a116 := Tryz.isAgg69,
  z116 := Tryz.sizeOf69 }
open Go.RowKit Go.Lib in
theorem Tryz.strings_makeASCIISet (hv116 : ∀ w, (zeroValue 69).run Tryz.prog w = .ok (.agg (Array.replicate 256 (.bool false))) w) (chars : ByteArray) (w : World) (hs : chars.size < 4294967281) (hascii : ∀ (j : Nat) b, chars.data.toList[j]? = some b → b.toNat < 128) :
    Calls Tryz.prog 53 #[.string chars] w fun e w' => e = .returned (.tuple #[.agg (Lib.setCells chars.data.toList), .bool true]) ∧ w' = w.alloc (.cells (Lib.setCells chars.data.toList) 69) := Any.strings_makeASCIISet Tryz.lays227 hv116 (by kernel_rfl) chars w hs hascii
def Tryz.lays228_ren : Go.Shelf.Ren := ⟨fun | 228 => 54 | n => n, fun | 0 => 0 | 4 => 4 | 5 => 5 | 116 => 69 | 124 => 83 | n => n, fun | 1 => 0 | 17 => 1 | 18 => 2 | 19 => 3 | n => n⟩
theorem Tryz.lays228 : Go.Proofs.Lays.n228 Tryz.prog Tryz.lays228_ren := {
  mixed := by kernel_rfl,
  f228 := Tryz.func54.trans (congrArg some (by kernel_rfl)),
  t0 := Tryz.underlying0,
  a0 := Tryz.isAgg0,
  z0 := Tryz.sizeOf0,
  v0 := Tryz.zeroValue0,
  t4 := Tryz.underlying4,
  a4 := Tryz.isAgg4,
  z4 := Tryz.sizeOf4,
  v4 := Tryz.zeroValue4,
  t5 := Tryz.underlying5,
  a5 := Tryz.isAgg5,
  z5 := Tryz.sizeOf5,
  v5 := Tryz.zeroValue5,
  t116 := Tryz.underlying69,
  a116 := Tryz.isAgg69,
  z116 := Tryz.sizeOf69,
  t124 := Tryz.underlying83,
  a124 := Tryz.isAgg83,
  z124 := Tryz.sizeOf83,
  v124 := Tryz.zeroValue83 }
open Go.RowKit Go.Lib in
theorem Tryz.asciiSet_contains (b : Nat) (x : UInt8) (v : Bool) (w : World) (hc : w.cell? ⟨b, x.toNat, none⟩ = some (.bool v)) :
    Calls Tryz.prog 54 #[.pointer (some ⟨b, 0, none⟩), .int .u8 x.toNat] w fun e w' => e = .returned (.bool v) ∧ w' = w := Any.asciiSet_contains Tryz.lays228 b x v w hc
open Go.RowKit Go.Lib in
theorem Tryz.strings_IndexAny_long (hv116 : ∀ w, (zeroValue 69).run Tryz.prog w = .ok (.agg (Array.replicate 256 (.bool false))) w) (s chars : ByteArray) (w : World) (h2 : 2 ≤ chars.size) (h8 : 8 < s.size) (hs : s.size < 4294967281) (hcs : chars.size < 4294967281) (hascii : ∀ (j : Nat) b, chars.data.toList[j]? = some b → b.toNat < 128) :
    Calls Tryz.prog 33 #[.string s, .string chars] w fun e w' => e = .returned (.int .i64 (Lib.indexAny s.data.toList chars.data.toList)) ∧ w' = ((w.alloc (.cells (Lib.setCells chars.data.toList) 69)).alloc (.cells (Lib.setCells chars.data.toList) 69)) := Any.strings_IndexAny_long Tryz.lays153 hv116 (by kernel_rfl) s chars w h2 h8 hs hcs hascii
open Go.RowKit Go.Lib in
theorem Tryz.strings_IndexAny (hv116 : ∀ w, (zeroValue 69).run Tryz.prog w = .ok (.agg (Array.replicate 256 (.bool false))) w) (s chars : ByteArray) (w : World) (hs : s.size < 4294967281) (hcs : chars.size < 4294967281) (has : ∀ (j : Nat) b, s.data.toList[j]? = some b → b.toNat < 128) (hac : ∀ (j : Nat) b, chars.data.toList[j]? = some b → b.toNat < 128) :
    Calls Tryz.prog 33 #[.string s, .string chars] w fun e w' => e = .returned (.int .i64 (Lib.indexAny s.data.toList chars.data.toList)) ∧ Below w.heap.size w w' := Any.strings_IndexAny Tryz.lays153 hv116 (by kernel_rfl) s chars w hs hcs has hac
open Go.RowKit Go.Lib in
theorem Tryz.strings_IndexAny_laid (s chars : ByteArray) (w : World) (hs : s.size < 4294967281) (hcs : chars.size < 4294967281) (has : ∀ (j : Nat) b, s.data.toList[j]? = some b → b.toNat < 128) (hac : ∀ (j : Nat) b, chars.data.toList[j]? = some b → b.toNat < 128) :
    Calls Tryz.prog 33 #[.string s, .string chars] w fun e w' => e = .returned (.int .i64 (Lib.indexAny s.data.toList chars.data.toList)) ∧ Below w.heap.size w w' := Any.strings_IndexAny_laid Tryz.lays153 (by kernel_rfl) s chars w hs hcs has hac
end Go.Proofs

namespace Go.Proofs.YtchdkiakdnanhaaGreatDoor.PA
open Go.RowKit Go.Proofs.YtchdkiakdnanhaaGreatDoor.Pl Go.Proofs.YtchdkiakdnanhaaGreatDoorW.PrintWords Go.Proofs.YtchdkiakdnanhaaGreatDoorW.PrintLast Go.Proofs.YtchdkiakdnanhaaGreatDoorW.PrintMore
set_option linter.unusedVariables false

/-- The writer in block b, made behind w0: its mask m, its text X. -/
structure Wt (w0 : World) (b : Nat) (m : Int) (X : List UInt8) (w : World) : Prop where
  bel : Below w0.heap.size w0 w
  le : w0.heap.size ≤ b
  at' : ∃ p v, (p = .pointer none ∨ p = .pointer (some ⟨b, 0, none⟩)) ∧ w.heap[b]? = some (.cells #[p, v, .int .i64 m] 50 (0, 0)) ∧ w.ownsRow w0.heap.size 5 1 v X.length (Lib.byteCells X)
/-- .. used. -/
structure Wu (w0 : World) (b : Nat) (m : Int) (X : List UInt8) (v : Value) (w : World) : Prop where
  bel : Below w0.heap.size w0 w
  le : w0.heap.size ≤ b
  blk : w.heap[b]? = some (.cells #[.pointer (some ⟨b, 0, none⟩), v, .int .i64 m] 50 (0, 0))
  own : w.ownsRow w0.heap.size 5 1 v X.length (Lib.byteCells X)
/-- What a method that writes T leaves. -/
structure Wrote (w0 : World) (b : Nat) (m : Int) (X T : List UInt8) (w : World) (e : Ending) (w' : World) : Prop where
  ret : e = .returned (.tuple #[])
  wt : Wt w0 b m (X ++ T) w'
  oth : Lib.OthersKept 5 (some b) w w'
section
variable {w0 w w' w'' : World} {b : Nat} {m : Int} {X T U : List UInt8} {v : Value}
theorem Wu.wt (h : Wu w0 b m X v w) : Wt w0 b m X w := ⟨h.bel, h.le, _, v, .inr rfl, h.blk, h.own⟩
theorem Wt.lt (h : Wt w0 b m X w) : b < w.heap.size := by
  obtain ⟨p, v, _, hk, _⟩ := h.at'
  exact (Array.getElem?_eq_some_iff.1 hk).1
theorem Wt.step (h : Wt w0 b m X w) (hb : Below w.heap.size w w') : Wt w0 b m X w' := by
  obtain ⟨p, v, hp, hk, ho⟩ := h.at'
  exact ⟨below_step h.bel hb, h.le, p, v, hp, (hb.block b h.lt).trans hk, own_move ho fun k hk => hb.block k (ho.lt k hk).2⟩
theorem Wt.mask (h : Wt w0 b m X w) : w.cell? ⟨b, 2, none⟩ = some (.int .i64 m) := by
  obtain ⟨p, v, _, hk, _⟩ := h.at'
  rw [Lib.cell_of_heap hk]
  rfl
theorem oth_step (hb : Below w.heap.size w w') : Lib.OthersKept 5 (some b) w w' := fun k o hk _ _ => (hb.block k (Array.getElem?_eq_some_iff.1 hk).1).trans hk
theorem Wrote.more (h : Wt w0 b m (X ++ T) w') (ho : Lib.OthersKept 5 (some b) w w') {e : Ending} (k : Wrote w0 b m (X ++ T) U w' e w'') : Wrote w0 b m X (T ++ U) w e w'' := ⟨k.ret, by have := k.wt; rwa [List.append_assoc] at this, ho.trans k.oth⟩
end
theorem lies_w : liesAt Tryz.prog Tryz.prog.depth 50 (3 / Tryz.prog.cellsOf 50) 0 38 1 = true := by kernel_rfl
theorem info_b : (Tryz.prog.info? 38).map (·.size) = some 2 := by kernel_rfl
theorem info_u8 : (Tryz.prog.info? 5).map (fun i => (i.zero, i.size, i.bytes)) = some (some (.int .u8 0), 1, 1) := by kernel_rfl
set_option maxHeartbeats 1000000 in
set_option maxRecDepth 100000 in
theorem cc_w {w0 : World} {b : Nat} {m : Int} {X : List UInt8} {w : World} (h : Wt w0 b m X w) :
    Calls Tryz.prog 31 #[.pointer (some ⟨b, 0, none⟩)] w fun e w' => e = .returned (.tuple #[]) ∧ (∃ v, Wu w0 b m X v w') ∧ Lib.OthersKept 5 (some b) w w' := by
  obtain ⟨p, v, hp, hk, ho⟩ := h.at'
  obtain ⟨j, hj, hjs⟩ := Option.map_eq_some_iff.1 info_b
  have h0 : w.cell? ⟨b, 0, none⟩ = some p := by rw [Lib.cell_of_heap hk]; rfl
  have hsh : w.shape? b = some (50, 3) := by simp [World.shape?, hk]
  have hfz : w.frozen? ⟨b, 0, none⟩ = false := Lib.frozen_of_heap hk 0
  have hne := Lib.ownBlock_ne ho hk (by decide)
  rcases hp with rfl | rfl
  · have HF := Aside0.mk (show Wu w0 b m X v (w.setCell ⟨b, 0, none⟩ (.pointer (some ⟨b, 0, none⟩))) from
      ⟨h.bel.setCell (p := ⟨b, 0, none⟩) h.le _, h.le, by simp [World.setCell, Array.getElem?_modify, hk], ho.kept (row := some b) ⟨rfl, rfl, rfl, by simp [World.setCell], fun k _ hk => Below.heap_setCell _ _ _ _ (fun e => hk (by simp [e]))⟩ (Or.inr hne)⟩)
    clear h hk ho hne
    go_enter Tryz.func31, Tryz.ntmps31
    go_wp2
    rw [Lib.run_to_unsafe w ⟨b, 0, none⟩ Tryz.underlying35 Tryz.underlying64 hj (by rw [hjs]; decide) hsh (Nat.zero_lt_succ 2)]
    simp only [Result.andThen]
    rw [Oper.upon_value]
    go_wp2
    rw [run_callFunc_extern Tryz.func49 (by kernel_rfl) (by kernel_rfl) (by kernel_rfl) (e := Extern.AbiNoEscape.same) (by kernel_rfl)]
    rw [Lib.run_noEscape]
    simp only [Result.andThen]
    rw [Oper.upon_value]
    go_wp2
    rw [Lib.run_from_unsafe w ⟨b, 0, none⟩ Tryz.underlying64 Tryz.underlying35 hj hsh lies_w]
    simp only [Result.andThen]
    rw [Oper.upon_value]
    go_wp2
    go_end0
    exact ⟨rfl, ⟨v, HF.out⟩, (Lib.OthersKept.refl _ _ w).setCell ⟨b, 0, none⟩ rfl _⟩
  · have HF := Aside0.mk (show Wu w0 b m X v w from ⟨h.bel, h.le, hk, ho⟩)
    have hnq := Lib.run_neq_ptr_same (P := Tryz.prog) (w := w) (tp := 35) (te := 38) (j := j) ⟨b, 0, none⟩ Tryz.underlying35 hj
    clear h hk ho hne
    go_enter Tryz.func31, Tryz.ntmps31
    go_wp2
    go_end0
    exact ⟨rfl, ⟨v, HF.out⟩, Lib.OthersKept.refl _ _ w⟩
set_option maxHeartbeats 2000000 in
set_option maxRecDepth 100000 in
theorem wstr {w0 : World} {b : Nat} {m : Int} {X : List UInt8} {w : World} (h : Wt w0 b m X w) (s : ByteArray) (hl : X.length + s.size ≤ 70368744177664) :
    Calls Tryz.prog 19 #[.pointer (some ⟨b, 0, none⟩), .string s] w fun e w' => e = .returned (.tuple #[.int .i64 s.size, .nilIface]) ∧ Wt w0 b m (X ++ s.data.toList) w' ∧ Lib.OthersKept 5 (some b) w w' := by
  obtain ⟨i0, hi, hz0, hz1, hz2⟩ := info_parts info_u8
  have HC := Aside0.mk (cc_w h)
  clear h
  go_enter Tryz.func19, Tryz.ntmps19
  go_wp2_with fail
  refine HC.out.mono ?_
  rintro e w1 ⟨rfl, ⟨v, hu⟩, hk1⟩
  have c1 : w1.cell? ⟨b, 1, none⟩ = some v := by rw [Lib.cell_of_heap hu.blk]; rfl
  have HU := Aside0.mk hu
  have HK1 := Aside0.mk hk1
  have HOW := Aside0.mk hu.own
  have hbs : w0.heap.size ≤ w1.heap.size := hu.bel.size
  clear hu hk1 HC
  go_wp2_with (at_builtin; refine Lib.wpList_append_own_string _ rfl _ _ 36 9 rfl w0.heap.size 5 i0 Tryz.underlying36 Tryz.underlying9 hi hz0 hz1 hz2 _ _ _ rfl HOW.out s rfl ?c3 ?c4 ?c5 ?_)
  case c3 => unfold maxLen; omega
  case c4 => omega
  case c5 => exact hbs
  intro v' w2 hown' hgrow _
  have hne := Lib.ownBlock_ne HOW.out HU.out.blk (by decide)
  have hlt : b < w1.heap.size := (Array.getElem?_eq_some_iff.1 HU.out.blk).1
  have hb2 : w2.heap[b]? = some (.cells #[.pointer (some ⟨b, 0, none⟩), v, .int .i64 m] 50 (0, 0)) := by
    rw [hgrow.block b hlt (fun e => hne e.symm)]
    exact HU.out.blk
  have hne' := Lib.ownBlock_ne hown' hb2 (by decide)
  have f1 : w2.frozen? ⟨b, 1, none⟩ = false := Lib.frozen_of_heap hb2 1
  have d1 : w2.cell? ⟨b, 1, none⟩ = some v := by rw [Lib.cell_of_heap hb2]; rfl
  have HF := Aside0.mk (show Wt w0 b m (X ++ s.data.toList) (w2.setCell ⟨b, 1, none⟩ v') from
    ⟨(HU.out.bel.grown hgrow hbs (fun k hk => (HOW.out.lt k hk).1)).setCell (p := ⟨b, 1, none⟩) HU.out.le _, HU.out.le, _, v', .inr rfl, by simp [World.setCell, Array.getElem?_modify, hb2], by
      have h1 := hown'.kept (row := some b) (w' := w2.setCell ⟨b, 1, none⟩ v') ⟨rfl, rfl, rfl, by simp [World.setCell], fun k _ hk => Below.heap_setCell _ _ _ _ (fun e => hk (by simp [e]))⟩ (Or.inr hne')
      rw [Lib.strCells_eq, ← Lib.byteCells_append] at h1
      rw [List.length_append, Array.length_toList]
      exact h1⟩)
  have HO := Aside0.mk (show Lib.OthersKept 5 (some b) w (w2.setCell ⟨b, 1, none⟩ v') from (HK1.out.grown hgrow (fun g hg => by
    obtain ⟨c, hc⟩ := own_typed HOW.out g hg
    exact ⟨c, _, hc⟩)).setCell ⟨b, 1, none⟩ rfl _)
  obtain ⟨ao, n', cap, rfl⟩ : ∃ ao n' cap, v' = .slice ao n' cap := by
    rcases hown'.2 with ⟨hv, _⟩ | ⟨g, cap, cur, hv, _⟩
    · exact ⟨_, _, _, hv⟩
    · exact ⟨_, _, _, hv⟩
  clear hne hne' hb2 hlt hown' hgrow
  go_wp2
  go_ret2
  exact ⟨rfl, HF.out, HO.out⟩
/-- Texts in line. -/
def cat (ss : List ByteArray) : List UInt8 := ss.flatMap fun s => s.data.toList
set_option maxHeartbeats 2000000 in
set_option maxRecDepth 100000 in
theorem put_w {w0 : World} {b : Nat} {m : Int} {X : List UInt8} {w : World} (h : Wt w0 b m X w) (g : Nat) (ss : List ByteArray) (hg : w.heap[g]? = some (.cells (ss.map Value.string).toArray 9 (0, 0))) (hl : X.length + (cat ss).length ≤ 70368744177664) (hs : ss.length ≤ 100) :
    Calls Tryz.prog 27 #[.pointer (some ⟨b, 0, none⟩), .slice (some ⟨g, 0, none⟩) ss.length ss.length] w (Wrote w0 b m X (cat ss) w) := by
  have HW := Aside0.mk h
  have HG := Aside0.mk hg
  have hgb : some g ≠ some b := fun e => by
    obtain ⟨p, v, _, hk, _⟩ := h.at'
    injection e with e
    rw [e, hk] at hg
    injection hg with hg
    injection hg with _ hg
    exact absurd hg (by decide)
  have HGB := Aside0.mk hgb
  obtain ⟨R, hR⟩ : ∃ R, Wrote w0 b m X (cat ss) w = R := ⟨_, rfl⟩
  have HR := Aside0.mk hR
  rw [hR]
  clear h hg hgb hR
  go_enter Tryz.func27, Tryz.ntmps27
  go_wp2_with fail
  go_loopw [5, 8] (fun v5 v8 wr => ∃ i : Nat, v8 = .int .i64 (i : Int) ∧ i ≤ ss.length ∧ Aside0 (Wt w0 b m (X ++ cat (ss.take i)) wr) ∧ Aside0 (Lib.OthersKept 5 (some b) w wr)) (fun _ v8 _ => ss.length - (intOf v8).toNat)
  case atStart => exact ⟨0, rfl, by omega, ⟨by simpa [cat] using HW.out⟩, ⟨Lib.OthersKept.refl _ _ _⟩⟩
  case round =>
    obtain ⟨i, rfl, hi, HWr, HO⟩ := hrel
    by_cases hlt : i < ss.length
    · have q1 : decide ((i : Int) < (ss.length : Int)) = true := decide_eq_true (by omega)
      have p0 := eq_true (show 0 ≤ (i : Int) from by omega)
      have p1 := eq_true (show (i : Int) < (ss.length : Int) from by omega)
      have hgr : wr.heap[g]? = some (.cells (ss.map Value.string).toArray 9 (0, 0)) := HO.out g _ HG.out HGB.out (fun c fz e => by injection e with _ e; exact absurd e (by decide))
      have x0 : wr.cell? ⟨g, i, none⟩ = some (.string ss[i]) := by rw [Lib.cell_of_heap hgr]; simp [hlt]
      have hsp : cat (ss.take (i + 1)) = cat (ss.take i) ++ ss[i].data.toList := by unfold cat; rw [List.take_add_one, List.getElem?_eq_getElem hlt, Option.toList_some, List.flatMap_append, List.flatMap_singleton]
      have hll : (cat (ss.take (i + 1))).length ≤ (cat ss).length := by
        have e : cat ss = cat (ss.take (i + 1)) ++ cat (ss.drop (i + 1)) := by unfold cat; rw [← List.flatMap_append, List.take_append_drop]
        rw [e, List.length_append]
        omega
      have hbd : X.length + (cat (ss.take i)).length + (ss[i]).size ≤ 70368744177664 := by
        rw [hsp, List.length_append] at hll
        have : (ss[i]).data.toList.length = (ss[i]).size := by rw [Array.length_toList]; rfl
        omega
      have HC := Aside0.mk (wstr HWr.out ss[i] (by rw [List.length_append]; exact hbd))
      have HSP := Aside0.mk hsp
      clear hgr hsp hll hbd HWr
      go_wp2_with fail
      refine HC.out.mono ?_
      rintro e w2 ⟨rfl, hw2, ho2⟩
      have HW2 := Aside0.mk (show Wt w0 b m (X ++ cat (ss.take (i + 1))) w2 from by rw [HSP.out, ← List.append_assoc]; exact hw2)
      have HO2 := Aside0.mk (HO.out.trans ho2)
      clear hw2 ho2 HC x0
      go_wp2
      go_roundw
      case rel => exact ⟨i + 1, by simp, by omega, HW2, HO2⟩
      case measure => simp [intOf]; omega
    · have q1 : decide ((i : Int) < (ss.length : Int)) = false := decide_eq_false (by omega)
      have htk : ss.take i = ss := List.take_of_length_le (by omega)
      rw [htk] at HWr
      clear htk
      go_wp2
      go_end0
      rw [← HR.out]
      exact ⟨rfl, HWr.out, HO.out⟩
end Go.Proofs.YtchdkiakdnanhaaGreatDoor.PA

namespace Go.Proofs.YtchdkiakdnanhaaGreatDoor.PA
open Go.RowKit Go.Proofs.YtchdkiakdnanhaaGreatDoor.Pl Go.Proofs.YtchdkiakdnanhaaGreatDoorW.PrintWords Go.Proofs.YtchdkiakdnanhaaGreatDoorW.PrintLast Go.Proofs.YtchdkiakdnanhaaGreatDoorW.PrintMore
set_option linter.unusedVariables false

theorem cells_u8 : Tryz.prog.cellsOf 5 = 1 := by kernel_rfl
set_option maxHeartbeats 2000000 in
set_option maxRecDepth 100000 in
theorem wout_some {w0 : World} {b : Nat} {m : Int} {X : List UInt8} {w : World} (h : Wt w0 b m X w) (h0 : X ≠ []) :
    Calls Tryz.prog 20 #[.pointer (some ⟨b, 0, none⟩)] w fun e w' => e = .returned (.string (B X)) ∧ Below w0.heap.size w0 w' := by
  obtain ⟨p, v, _, hk, hown⟩ := h.at'
  have hl0 : X.length ≠ 0 := by simpa using h0
  obtain ⟨g, cap, cur, rfl, hbg, hg, hnc, hcm, hcs, htake⟩ : ∃ g cap cur, v = .slice (some ⟨g, 0, none⟩) X.length cap ∧ w0.heap.size ≤ g ∧ w.heap[g]? = some (.cells cur 5 (0, 0)) ∧ X.length ≤ cap ∧ cap ≤ maxLen ∧ cur.size = cap * 1 ∧ cur.toList.take (X.length * 1) = Lib.byteCells X := by
    rcases hown.2 with ⟨_, hz⟩ | ⟨g, cap, cur, hv, r⟩
    · exact absurd hz hl0
    · exact ⟨g, cap, cur, hv, r⟩
  have c1 : w.drew.cell? ⟨b, 1, none⟩ = some (.slice (some ⟨g, 0, none⟩) X.length cap) := by
    have : w.drew.heap[b]? = some (.cells #[p, .slice (some ⟨g, 0, none⟩) X.length cap, .int .i64 m] 50 (0, 0)) := hk
    rw [Lib.cell_of_heap this]; rfl
  have hSD : (Builtin.unsafeSliceData_ #[36] 56 #[.slice (some ⟨g, 0, none⟩) X.length cap]).run Tryz.prog w.drew = .ok (.pointer (some ⟨g, 0, none⟩)) w.drew :=
    Lib.run_unsafeSliceData_row _ _ _ _ _ _ (by omega)
  have hUS : (Builtin.unsafeString_ #[56, 3] 9 #[.pointer (some ⟨g, 0, none⟩), .int .i64 X.length]).run Tryz.prog w.drew = .ok (.string ⟨X.toArray⟩) (w.drew.freeze ⟨g, 0, none⟩ X.length) := by
    refine Lib.run_unsafeString_row w.drew 56 3 9 5 Tryz.underlying56 cells_u8 g cur.size (by have hg' : w.drew.heap[g]? = some (.cells cur 5 (0, 0)) := hg; simp [World.shape?, hg']) X h0 (by omega) (by unfold maxLen at hcm; omega) ?_
    intro j x hx
    have := hown.cells (g := g) rfl j (.int .u8 x.toNat) (by simp [Lib.byteCells, hx])
    exact this
  have HB := Aside0.mk (Lib.below_freeze (Below.drew h.bel) (p := ⟨g, 0, none⟩) hbg X.length)
  clear h hk hown htake hg hbg
  have mixed : Tryz.prog.follows Departure.mixedOrders = true := by kernel_rfl
  go_enter Tryz.func20, Tryz.ntmps20
  go_wp2
  go_region_o
  all_goals (go_wp2; go_ret; exact ⟨rfl, HB.out⟩)
set_option maxHeartbeats 2000000 in
set_option maxRecDepth 100000 in
theorem wout_none {w0 : World} {b : Nat} {m : Int} {w : World} (h : Wt w0 b m [] w) :
    Calls Tryz.prog 20 #[.pointer (some ⟨b, 0, none⟩)] w fun e w' => e = .returned (.string (B [])) ∧ Below w0.heap.size w0 w' := by
  obtain ⟨p, v, _, hk, hown⟩ := h.at'
  have hUS : ∀ (W : World) (q : Option Addr), (Builtin.unsafeString_ #[56, 3] 9 #[.pointer q, .int .i64 0]).run Tryz.prog W = .ok (.string .empty) W := fun W q => Lib.run_unsafeString_none W _ _ _ q
  have hlt := h.lt
  have hbs := h.bel.size
  have HBL := Aside0.mk h.bel
  rcases hown.2 with ⟨rfl, _⟩ | ⟨g, cap, cur, rfl, hbg, hg, -⟩
  · have c1 : w.drew.cell? ⟨b, 1, none⟩ = some (.slice none 0 0) := by
      have : w.drew.heap[b]? = some (.cells #[p, .slice none 0 0, .int .i64 m] 50 (0, 0)) := hk
      rw [Lib.cell_of_heap this]; rfl
    have hSD : (Builtin.unsafeSliceData_ #[36] 56 #[.slice none 0 0]).run Tryz.prog w.drew = .ok (.pointer none) w.drew := rfl
    clear h hk hown
    have mixed : Tryz.prog.follows Departure.mixedOrders = true := by kernel_rfl
    go_enter Tryz.func20, Tryz.ntmps20
    go_wp2
    go_region_o
    all_goals (go_wp2; go_ret; exact ⟨rfl, Below.drew HBL.out⟩)
  · by_cases hc0 : cap = 0
    · subst hc0
      have c1 : w.drew.cell? ⟨b, 1, none⟩ = some (.slice (some ⟨g, 0, none⟩) 0 0) := by
        have : w.drew.heap[b]? = some (.cells #[p, .slice (some ⟨g, 0, none⟩) 0 0, .int .i64 m] 50 (0, 0)) := hk
        rw [Lib.cell_of_heap this]; rfl
      have hSD : (Builtin.unsafeSliceData_ #[36] 56 #[.slice (some ⟨g, 0, none⟩) 0 0]).run Tryz.prog w.drew = .ok (.pointer (some ⟨w.drew.heap.size, 0, none⟩)) (w.drew.alloc (.view ⟨g, 0, none⟩ 5)) :=
        Lib.run_unsafeSliceData_zero w.drew _ _ 5 Tryz.underlying56 ⟨g, 0, none⟩ 0 (5, cur.size) (by have hg' : w.drew.heap[g]? = some (.cells cur 5 (0, 0)) := hg; simp [World.shape?, hg'])
      have c2 : (w.drew.alloc (.view ⟨g, 0, none⟩ 5)).cell? ⟨b, 1, none⟩ = some (.slice (some ⟨g, 0, none⟩) 0 0) := by
        have : (w.drew.alloc (.view ⟨g, 0, none⟩ 5)).heap[b]? = _ := (Lib.alloc_old w.drew _ b hlt).trans hk
        rw [Lib.cell_of_heap this]; rfl
      have c3 : (w.alloc (.view ⟨g, 0, none⟩ 5)).drew.cell? ⟨b, 1, none⟩ = some (.slice (some ⟨g, 0, none⟩) 0 0) := c2
      have c0 : w.cell? ⟨b, 1, none⟩ = some (.slice (some ⟨g, 0, none⟩) 0 0) := c1
      clear h hk hown hg
      have mixed : Tryz.prog.follows Departure.mixedOrders = true := by kernel_rfl
      go_enter Tryz.func20, Tryz.ntmps20
      go_wp2
      go_region_o
      all_goals (go_wp2; go_ret; exact ⟨rfl, (Below.drew HBL.out).alloc hbs _⟩)
    · have c1 : w.drew.cell? ⟨b, 1, none⟩ = some (.slice (some ⟨g, 0, none⟩) 0 cap) := by
        have : w.drew.heap[b]? = some (.cells #[p, .slice (some ⟨g, 0, none⟩) 0 cap, .int .i64 m] 50 (0, 0)) := hk
        rw [Lib.cell_of_heap this]; rfl
      have hSD : (Builtin.unsafeSliceData_ #[36] 56 #[.slice (some ⟨g, 0, none⟩) 0 cap]).run Tryz.prog w.drew = .ok (.pointer (some ⟨g, 0, none⟩)) w.drew :=
        Lib.run_unsafeSliceData_row _ _ _ _ _ _ hc0
      clear hc0 h hk hown hg
      have mixed : Tryz.prog.follows Departure.mixedOrders = true := by kernel_rfl
      go_enter Tryz.func20, Tryz.ntmps20
      go_wp2
      go_region_o
      all_goals (go_wp2; go_ret; exact ⟨rfl, Below.drew HBL.out⟩)
theorem wout {w0 : World} {b : Nat} {m : Int} {X : List UInt8} {w : World} (h : Wt w0 b m X w) :
    Calls Tryz.prog 20 #[.pointer (some ⟨b, 0, none⟩)] w fun e w' => e = .returned (.string (B X)) ∧ Below w0.heap.size w0 w' := by
  cases X with
  | nil => exact wout_none h
  | cons x r => exact wout_some h (by simp)
end Go.Proofs.YtchdkiakdnanhaaGreatDoor.PA

namespace Go.Proofs.YtchdkiakdnanhaaGreatDoor.Pl
open Go.RowKit Go.Proofs.YtchdkiakdnanhaaGreatDoorW.PrintWords

/-! #### HTML -/
/-- A byte as it stands in HTML. -/
def esc (x : UInt8) : List UInt8 := if x = 38 then [38, 97, 109, 112, 59] else if x = 60 then [38, 108, 116, 59] else if x = 62 then [38, 103, 116, 59] else if x = 34 then [38, 113, 117, 111, 116, 59] else [x]
/-- A text as it stands in HTML. -/
def htm (l : List UInt8) : List UInt8 := l.flatMap esc
theorem htm_nil : htm [] = [] := rfl
theorem htm_cons (x : UInt8) (l : List UInt8) : htm (x :: l) = esc x ++ htm l := by unfold htm; rw [List.flatMap_cons]
theorem htm_append (a b : List UInt8) : htm (a ++ b) = htm a ++ htm b := by unfold htm; rw [List.flatMap_append]
theorem esc_len (x : UInt8) : 1 ≤ (esc x).length ∧ (esc x).length ≤ 6 := by
  unfold esc
  repeat' split
  all_goals simp
theorem htm_len : ∀ l : List UInt8, l.length ≤ (htm l).length ∧ (htm l).length ≤ 6 * l.length
  | [] => by simp [htm]
  | x :: l => by
    have h1 := htm_len l
    have h2 := esc_len x
    rw [htm_cons, List.length_append, List.length_cons]
    omega
/-! #### an address -/
/-- Does a byte stand for itself in an address? -/
def pln (x : UInt8) : Bool := (decide (48 ≤ x.toNat) && decide (x.toNat ≤ 57)) || (decide (97 ≤ x.toNat) && decide (x.toNat ≤ 122)) || (decide (65 ≤ x.toNat) && decide (x.toNat ≤ 90)) || ([33, 35, 36, 37, 40, 41, 42, 43, 44, 45, 46, 47, 58, 59, 61, 63, 64, 95, 126] : List UInt8).contains x
/-- A digit of base 16. -/
def hxd16 (n : Nat) : UInt8 := if n < 10 then UInt8.ofNat (48 + n) else UInt8.ofNat (55 + n)
/-- A byte as it stands in an address. -/
def adr (x : UInt8) : List UInt8 := if x = 38 then [38, 97, 109, 112, 59] else if x = 39 then [38, 35, 51, 57, 59] else if pln x = true then [x] else [37, hxd16 (x.toNat / 16), hxd16 (x.toNat % 16)]
/-- A text as an address. -/
def hrf (l : List UInt8) : List UInt8 := l.flatMap adr
theorem hrf_nil : hrf [] = [] := rfl
theorem hrf_cons (x : UInt8) (l : List UInt8) : hrf (x :: l) = adr x ++ hrf l := by unfold hrf; rw [List.flatMap_cons]
theorem hrf_append (a b : List UInt8) : hrf (a ++ b) = hrf a ++ hrf b := by unfold hrf; rw [List.flatMap_append]
theorem adr_len (x : UInt8) : 1 ≤ (adr x).length ∧ (adr x).length ≤ 6 := by
  unfold adr
  repeat' split
  all_goals simp
theorem hrf_len : ∀ l : List UInt8, l.length ≤ (hrf l).length ∧ (hrf l).length ≤ 6 * l.length
  | [] => by simp [hrf]
  | x :: l => by
    have h1 := hrf_len l
    have h2 := adr_len x
    rw [hrf_cons, List.length_append, List.length_cons]
    omega
/-- Is a byte a sign of HTML? -/
def isS (x : UInt8) : Bool := decide (x = 38) || decide (x = 60) || decide (x = 62) || decide (x = 34)
theorem esc_no (x : UInt8) (h : isS x = false) : esc x = [x] := by
  unfold isS at h
  simp only [Bool.or_eq_false_iff, decide_eq_false_iff_not] at h
  unfold esc
  rw [if_neg h.1.1.1, if_neg h.1.1.2, if_neg h.1.2, if_neg h.2]
theorem htm_no : ∀ l : List UInt8, l.any isS = false → htm l = l
  | [], _ => rfl
  | x :: l, h => by
    rw [List.any_cons, Bool.or_eq_false_iff] at h
    rw [htm_cons, esc_no x h.1, htm_no l h.2]
    rfl
theorem htm_count : ∀ l : List UInt8, (htm l).length = l.length + (l.count 34 * 5 + l.count 62 * 3 + l.count 60 * 3 + l.count 38 * 4)
  | [] => rfl
  | x :: l => by
    have ih := htm_count l
    rw [htm_cons, List.length_append, ih, List.length_cons, List.count_cons, List.count_cons, List.count_cons, List.count_cons]
    unfold esc
    by_cases h1 : x = 38
    · subst h1; simp; omega
    · by_cases h2 : x = 60
      · subst h2; simp; omega
      · by_cases h3 : x = 62
        · subst h3; simp; omega
        · by_cases h4 : x = 34
          · subst h4; simp; omega
          · simp [h1, h2, h3, h4]; omega
theorem any_count : ∀ l : List UInt8, l.any isS = decide (0 < l.count 34 + l.count 62 + l.count 60 + l.count 38)
  | [] => rfl
  | x :: l => by
    rw [List.any_cons, any_count l, List.count_cons, List.count_cons, List.count_cons, List.count_cons]
    unfold isS
    by_cases h1 : x = 38
    · subst h1; simp; omega
    · by_cases h2 : x = 60
      · subst h2; simp; omega
      · by_cases h3 : x = 62
        · subst h3; simp; omega
        · by_cases h4 : x = 34
          · subst h4; simp; omega
          · simp [h1, h2, h3, h4]
theorem htm_take (l : List UInt8) (k : Nat) (h : k < l.length) : htm (l.take (k + 1)) = htm (l.take k) ++ esc l[k] := by
  rw [List.take_succ_eq_append_getElem h, htm_append]
  congr 1
  simp [htm]
theorem htm_take_lt (l : List UInt8) (k : Nat) : (htm (l.take k)).length + (l.length - k) ≤ (htm l).length := by
  have e : htm l = htm (l.take k) ++ htm (l.drop k) := by rw [← htm_append, List.take_append_drop]
  have h2 := (htm_len (l.drop k)).1
  rw [List.length_drop] at h2
  rw [e, List.length_append]
  omega
end Go.Proofs.YtchdkiakdnanhaaGreatDoor.Pl

namespace Go.Proofs.YtchdkiakdnanhaaGreatDoor.Pl
open Go.RowKit Go.Proofs.YtchdkiakdnanhaaGreatDoor.PA
set_option linter.unusedVariables false

abbrev Nd := S29
/-- An attribute. -/
def atr (n v : List UInt8) : List UInt8 := if v = [] then [] else [32] ++ n ++ [61, 34] ++ v ++ [34]
/-- A part in a tag. -/
def tagd (tag attrs body : List UInt8) : List UInt8 := [60] ++ tag ++ attrs ++ [62] ++ (body ++ ([60, 47] ++ tag ++ [62]))
def idA (n : Int) : List UInt8 := [102, 110, 45] ++ Lib.itoa (max n 1)
def idB (n m : Int) : List UInt8 := [102, 110, 114, 101, 102, 45] ++ Lib.itoa (max n 1) ++ (if 1 < m then [45] ++ Lib.itoa m else [])
def refT (n m : Int) : List UInt8 := [60, 115, 117, 112, 32, 99, 108, 97, 115, 115, 61, 34, 102, 111, 111, 116, 110, 111, 116, 101, 45, 114, 101, 102, 34, 62, 60, 97, 32, 104, 114, 101, 102, 61, 34, 35] ++ idA n ++ [34, 32, 105, 100, 61, 34] ++ idB n m ++ [34, 62] ++ Lib.itoa (max n 1) ++ [60, 47, 97, 62, 60, 47, 115, 117, 112, 62]
/-- The names that are filtered. -/
def bads : List (List UInt8) := [[116, 105, 116, 108, 101], [116, 101, 120, 116, 97, 114, 101, 97], [115, 116, 121, 108, 101], [120, 109, 112], [105, 102, 114, 97, 109, 101], [110, 111, 101, 109, 98, 101, 100], [110, 111, 102, 114, 97, 109, 101, 115], [115, 99, 114, 105, 112, 116], [112, 108, 97, 105, 110, 116, 101, 120, 116]]
def lwr (l : List UInt8) : List UInt8 := l.map fun x => if 65 ≤ x.toNat ∧ x.toNat ≤ 90 then x + 32 else x
def isW (x : UInt8) : Bool := x = 32 || x = 9 || x = 10 || x = 47 || x = 62
/-- Does a tag that is filtered begin, behind a smaller-than sign? -/
def bad (l : List UInt8) : Bool := bads.contains (lwr ((if l.head? = some 47 then l.tail else l).takeWhile fun x => !isW x))
def flt : List UInt8 → List UInt8
  | [] => []
  | x :: r => (if x = 60 ∧ bad r = true then [38, 108, 116, 59] else [x]) ++ flt r
def rawT (m : Int) (l : List UInt8) : List UInt8 := if bits .and .i64 m 16 = 0 then l else flt l
def boxT (fl : Bool) : List UInt8 := [60, 105, 110, 112, 117, 116, 32, 116, 121, 112, 101, 61, 34, 99, 104, 101, 99, 107, 98, 111, 120, 34, 32, 100, 105, 115, 97, 98, 108, 101, 100, 61, 34, 34] ++ ((if fl then [32, 99, 104, 101, 99, 107, 101, 100, 61, 34, 34] else []) ++ [32, 47, 62])
/-- A part that nothing stands in. -/
def leafT (m k : Int) (s : List UInt8) (n mm : Int) (fl : Bool) : List UInt8 :=
  if k = 14 then htm s
  else if k = 15 then [10]
  else if k = 16 then [60, 98, 114, 32, 47, 62, 10]
  else if k = 17 then [60, 99, 111, 100, 101, 62] ++ htm s ++ [60, 47, 99, 111, 100, 101, 62]
  else if k = 22 then rawT m s
  else if k = 24 then refT n mm
  else if k = 25 then boxT fl
  else []
mutual
/-- What can be read of a part; of parts. -/
def rdT1 : Nd → List UInt8
  | ⟨k, s, _, _, _, _, l⟩ => (if k = 14 ∨ k = 17 then s.data.toList else if k = 15 ∨ k = 16 then [32] else []) ++ rdT l
def rdT : List Nd → List UInt8
  | [] => []
  | x :: r => rdT1 x ++ rdT r
end
mutual
/-- A part of a text; parts. -/
def inl1 (m : Int) : Nd → List UInt8
  | ⟨k, s, t, n, mm, fl, l⟩ =>
    if k = 18 then tagd [101, 109] [] (inl m l)
    else if k = 19 then tagd [115, 116, 114, 111, 110, 103] [] (inl m l)
    else if k = 23 then tagd [100, 101, 108] [] (inl m l)
    else if k = 20 then tagd [97] ([32, 104, 114, 101, 102, 61, 34] ++ hrf s.data.toList ++ [34] ++ atr [116, 105, 116, 108, 101] (htm t.data.toList)) (inl m l)
    else if k = 21 then [60, 105, 109, 103, 32, 115, 114, 99, 61, 34] ++ hrf s.data.toList ++ [34, 32, 97, 108, 116, 61, 34] ++ htm (rdT l) ++ [34] ++ atr [116, 105, 116, 108, 101] (htm t.data.toList) ++ [32, 47, 62]
    else leafT m k s.data.toList n mm fl
def inl (m : Int) : List Nd → List UInt8
  | [] => []
  | x :: r => inl1 m x ++ inl m r
end
def alnT (n : Int) : List UInt8 := if n = 1 then atr [97, 108, 105, 103, 110] [108, 101, 102, 116] else if n = 2 then atr [97, 108, 105, 103, 110] [114, 105, 103, 104, 116] else if n = 3 then atr [97, 108, 105, 103, 110] [99, 101, 110, 116, 101, 114] else []
def celT (m : Int) (tag : List UInt8) (c : Nd) : List UInt8 := tagd tag (alnT c.f3) (inl m c.f6) ++ [10]
def rowT (m : Int) (tag : List UInt8) (r : Nd) : List UInt8 := [60, 116, 114, 62, 10] ++ (r.f6.flatMap (celT m tag) ++ [60, 47, 116, 114, 62, 10])
def tblT (m : Int) (l : List Nd) : List UInt8 :=
  [60, 116, 97, 98, 108, 101, 62, 10, 60, 116, 104, 101, 97, 100, 62, 10] ++ ((l.take 1).flatMap (rowT m [116, 104]) ++ ([60, 47, 116, 104, 101, 97, 100, 62, 10] ++
    ((if 1 < l.length then [60, 116, 98, 111, 100, 121, 62, 10] ++ ((l.drop 1).flatMap (rowT m [116, 100]) ++ [60, 47, 116, 98, 111, 100, 121, 62, 10]) else []) ++ [60, 47, 116, 97, 98, 108, 101, 62, 10])))
def wrdT (t : List UInt8) : List UInt8 := t.takeWhile fun x => !(x = 32 || x = 9 || x = 10)
def codT (s t : List UInt8) : List UInt8 :=
  [60, 112, 114, 101, 62, 60, 99, 111, 100, 101] ++ (if wrdT t = [] then [] else atr [99, 108, 97, 115, 115] ([108, 97, 110, 103, 117, 97, 103, 101, 45] ++ htm (wrdT t))) ++ [62] ++ htm s ++ [60, 47, 99, 111, 100, 101, 62, 60, 47, 112, 114, 101, 62, 10]
def ordd (mm : Int) : Bool := mm = 46 || mm = 41
def lstO (n mm : Int) : List UInt8 := [60] ++ (if ordd mm then [111, 108] else [117, 108]) ++ (if ordd mm && decide (n ≠ 1) then atr [115, 116, 97, 114, 116] (Lib.itoa (max n 0)) else []) ++ [62, 10]
def lstC (mm : Int) : List UInt8 := [60, 47] ++ (if ordd mm then [111, 108] else [117, 108]) ++ [62, 10]
mutual
/-- A block; blocks; an item; a list's items; an item's blocks, tight. -/
def blk1 (m : Int) : Nd → List UInt8
  | ⟨k, s, t, n, mm, fl, l⟩ =>
    if k = 7 then tagd [112] [] (inl m l) ++ [10]
    else if k = 8 then tagd ([104] ++ Lib.itoa (min (max n 1) 6)) (atr [105, 100] (htm t.data.toList)) (inl m l) ++ [10]
    else if k = 9 then [60, 104, 114, 32, 47, 62, 10]
    else if k = 5 then codT s.data.toList t.data.toList
    else if k = 6 then rawT m s.data.toList
    else if k = 2 then [60, 98, 108, 111, 99, 107, 113, 117, 111, 116, 101, 62, 10] ++ (blk m l ++ [60, 47, 98, 108, 111, 99, 107, 113, 117, 111, 116, 101, 62, 10])
    else if k = 3 then lstO n mm ++ (itms m fl l ++ lstC mm)
    else if k = 10 then tblT m l
    else blk m l
def blk (m : Int) : List Nd → List UInt8
  | [] => []
  | x :: r => blk1 m x ++ blk m r
def itmT (m : Int) (fl : Bool) : Nd → List UInt8
  | ⟨k, s, t, n, mm, f, l⟩ => [60, 108, 105, 62] ++ ((if fl = false then (if l = [] then [] else [10]) ++ blk m l else tght m true l) ++ [60, 47, 108, 105, 62, 10])
def itms (m : Int) (fl : Bool) : List Nd → List UInt8
  | [] => []
  | x :: r => (if x.f0 = 4 then itmT m fl x else blk1 m x) ++ itms m fl r
def tght (m : Int) (first : Bool) : List Nd → List UInt8
  | [] => []
  | x :: r => (if x.f0 = 7 then inl m x.f6 ++ (if r = [] then [] else [10]) else (if first then [10] else []) ++ blk1 m x) ++ tght m false r
end
end Go.Proofs.YtchdkiakdnanhaaGreatDoor.Pl

namespace Go.Proofs.YtchdkiakdnanhaaGreatDoor.Pl
open Go.RowKit Go.Proofs.YtchdkiakdnanhaaGreatDoor.PA
set_option linter.unusedVariables false

theorem dec_len : ∀ k u : Nat, u < 10 ^ (k + 1) → (Lib.decDigits u).length ≤ k + 1 := by
  intro k
  induction k with
  | zero =>
    intro u hu
    rw [Lib.decDigits_one (by simpa using hu)]
    simp
  | succ k ih =>
    intro u hu
    by_cases h : u < 10
    · rw [Lib.decDigits_one h]
      simp
    · rw [Lib.decDigits, dif_neg h, List.length_append, List.length_singleton]
      have h1 := ih (u / 10) (Nat.div_lt_of_lt_mul (by rw [Nat.pow_succ, Nat.mul_comm] at hu; exact hu))
      omega
theorem itoa_len {n : Int} (h0 : -9223372036854775808 ≤ n) (h1 : n ≤ 9223372036854775807) : (Lib.itoa n).length ≤ 20 := by
  have hd : (Lib.decDigits n.natAbs).length ≤ 19 := dec_len 18 _ (by omega)
  have hd2 : (Lib.decDigits n.toNat).length ≤ 19 := dec_len 18 _ (by omega)
  unfold Lib.itoa
  split
  · rw [List.length_cons]; omega
  · omega
/-- A number that an int holds. -/
def i64 (n : Int) : Prop := -9223372036854775808 ≤ n ∧ n ≤ 9223372036854775807
mutual
def wt1 : Nd → Nat
  | ⟨k, s, t, n, mm, fl, l⟩ => 1 + s.size + t.size + wt l
def wt : List Nd → Nat
  | [] => 0
  | x :: r => wt1 x + wt r
end
mutual
/-- Numbers that ints hold, texts that are not too long. -/
def ok1 : Nd → Prop
  | ⟨k, s, t, n, mm, fl, l⟩ => (i64 n ∧ i64 mm ∧ s.size ≤ 1048576 ∧ t.size ≤ 1048576) ∧ okl l
def okl : List Nd → Prop
  | [] => True
  | x :: r => ok1 x ∧ okl r
end
theorem wt1_eta (x : Nd) : wt1 x = 1 + x.f1.size + x.f2.size + wt x.f6 := by cases x; rw [wt1]
theorem ok1_eta {x : Nd} (h : ok1 x) : (i64 x.f3 ∧ i64 x.f4 ∧ x.f1.size ≤ 1048576 ∧ x.f2.size ≤ 1048576) ∧ okl x.f6 := by cases x; rw [ok1] at h; exact h
theorem wt_append : ∀ a b : List Nd, wt (a ++ b) = wt a + wt b
  | [], b => by rw [List.nil_append, wt]; omega
  | x :: a, b => by rw [List.cons_append, wt, wt, wt_append a b]; omega
theorem wt_mem : ∀ {l : List Nd} {x : Nd}, x ∈ l → wt1 x ≤ wt l
  | [], x, h => by simp at h
  | y :: r, x, h => by
    rw [wt]
    rcases List.mem_cons.1 h with rfl | h
    · omega
    · have := wt_mem h; omega
theorem okl_mem : ∀ {l : List Nd} {x : Nd}, okl l → x ∈ l → ok1 x
  | [], x, _, h => by simp at h
  | y :: r, x, ho, h => by
    rw [okl] at ho
    rcases List.mem_cons.1 h with rfl | h
    · exact ho.1
    · exact okl_mem ho.2 h
theorem okl_of : ∀ {l : List Nd}, (∀ x ∈ l, ok1 x) → okl l
  | [], _ => by rw [okl]; trivial
  | y :: r, h => by rw [okl]; exact ⟨h y List.mem_cons_self, okl_of fun x hx => h x (List.mem_cons_of_mem _ hx)⟩
theorem okl_take {l : List Nd} (h : okl l) (n : Nat) : okl (l.take n) := okl_of fun x hx => okl_mem h (List.mem_of_mem_take hx)
theorem okl_drop {l : List Nd} (h : okl l) (n : Nat) : okl (l.drop n) := okl_of fun x hx => okl_mem h (List.mem_of_mem_drop hx)
theorem okl_append {a b : List Nd} (ha : okl a) (hb : okl b) : okl (a ++ b) := okl_of fun x hx => (List.mem_append.1 hx).elim (okl_mem ha) (okl_mem hb)
theorem wt_take (l : List Nd) (n : Nat) : wt (l.take n) ≤ wt l := by
  have h := wt_append (l.take n) (l.drop n)
  rw [List.take_append_drop] at h
  omega
theorem wt_drop (l : List Nd) (n : Nat) : wt (l.drop n) ≤ wt l := by
  have h := wt_append (l.take n) (l.drop n)
  rw [List.take_append_drop] at h
  omega
theorem inl_append (m : Int) : ∀ a b : List Nd, inl m (a ++ b) = inl m a ++ inl m b
  | [], b => by simp [inl]
  | x :: a, b => by rw [List.cons_append, inl, inl, inl_append m a b, List.append_assoc]
theorem blk_append (m : Int) : ∀ a b : List Nd, blk m (a ++ b) = blk m a ++ blk m b
  | [], b => by simp [blk]
  | x :: a, b => by rw [List.cons_append, blk, blk, blk_append m a b, List.append_assoc]
theorem rdT_append : ∀ a b : List Nd, rdT (a ++ b) = rdT a ++ rdT b
  | [], b => by simp [rdT]
  | x :: a, b => by rw [List.cons_append, rdT, rdT, rdT_append a b, List.append_assoc]
theorem inl_one (m : Int) (x : Nd) : inl m [x] = inl1 m x := by rw [inl, inl, List.append_nil]
theorem blk_one (m : Int) (x : Nd) : blk m [x] = blk1 m x := by rw [blk, blk, List.append_nil]
theorem rdT_one (x : Nd) : rdT [x] = rdT1 x := by rw [rdT, rdT, List.append_nil]
theorem take_succ {l : List Nd} {i : Nat} (h : i < l.length) : l.take (i + 1) = l.take i ++ [l[i]] := by rw [List.take_add_one, List.getElem?_eq_getElem h]; rfl
theorem inl_take (m : Int) {l : List Nd} {i : Nat} (h : i < l.length) : inl m (l.take (i + 1)) = inl m (l.take i) ++ inl1 m l[i] := by rw [take_succ h, inl_append, inl_one]
theorem blk_take (m : Int) {l : List Nd} {i : Nat} (h : i < l.length) : blk m (l.take (i + 1)) = blk m (l.take i) ++ blk1 m l[i] := by rw [take_succ h, blk_append, blk_one]
theorem rdT_take {l : List Nd} {i : Nat} (h : i < l.length) : rdT (l.take (i + 1)) = rdT (l.take i) ++ rdT1 l[i] := by rw [take_succ h, rdT_append, rdT_one]
/-! how long -/
mutual
theorem rdT1_len : ∀ x : Nd, (rdT1 x).length ≤ wt1 x
  | ⟨k, s, t, n, mm, fl, l⟩ => by
    have h := rdT_len l
    have hs : s.data.toList.length = s.size := by rw [Array.length_toList]; rfl
    rw [rdT1, wt1, List.length_append]
    split
    · omega
    · split
      · rw [List.length_singleton]; omega
      · rw [List.length_nil]; omega
theorem rdT_len : ∀ l : List Nd, (rdT l).length ≤ wt l
  | [] => by rw [rdT, wt]; exact Nat.le_refl _
  | x :: r => by
    have h1 := rdT1_len x
    have h2 := rdT_len r
    rw [rdT, wt, List.length_append]
    omega
end
theorem tagd_len (a b c : List UInt8) : (tagd a b c).length = 5 + 2 * a.length + b.length + c.length := by
  unfold tagd
  simp only [List.length_append, List.length_cons, List.length_nil]
  omega
theorem atr_len (a b : List UInt8) : (atr a b).length ≤ 4 + a.length + b.length := by
  unfold atr
  split
  · simp
  · simp only [List.length_append, List.length_cons, List.length_nil]; omega
theorem flt_len : ∀ l : List UInt8, (flt l).length ≤ 4 * l.length
  | [] => by simp [flt]
  | x :: r => by
    have h := flt_len r
    rw [flt, List.length_append, List.length_cons]
    split
    · simp only [List.length_cons, List.length_nil]; omega
    · simp only [List.length_cons, List.length_nil]; omega
theorem rawT_len (m : Int) (l : List UInt8) : (rawT m l).length ≤ 4 * l.length := by
  unfold rawT
  split
  · omega
  · exact flt_len l
theorem refT_len {n m : Int} (hn : i64 n) (hm : i64 m) : (refT n m).length ≤ 200 := by
  have h1 := itoa_len (n := max n 1) (by have := hn.1; omega) (by have := hn.2; omega)
  have h2 := itoa_len (n := m) hm.1 hm.2
  have h3 : (if 1 < m then [45] ++ Lib.itoa m else ([] : List UInt8)).length ≤ 21 := by
    split
    · rw [List.length_append, List.length_singleton]; omega
    · simp
  unfold refT idA idB
  simp only [List.length_append, List.length_cons, List.length_nil]
  omega
theorem boxT_len (fl : Bool) : (boxT fl).length ≤ 60 := by cases fl <;> decide
theorem leafT_len (m k : Int) (s : List UInt8) {n mm : Int} (fl : Bool) (hn : i64 n) (hm : i64 mm) : (leafT m k s n mm fl).length ≤ 200 + 6 * s.length := by
  have h1 := (htm_len s).2
  have h2 := rawT_len m s
  have h3 := refT_len hn hm
  have h4 := boxT_len fl
  unfold leafT
  split
  · omega
  split
  · simp only [List.length_cons, List.length_nil]; omega
  split
  · simp only [List.length_cons, List.length_nil]; omega
  split
  · simp only [List.length_append, List.length_cons, List.length_nil]; omega
  split
  · omega
  split
  · omega
  split
  · omega
  · rw [List.length_nil]; omega
mutual
theorem inl1_len (m : Int) : ∀ x : Nd, ok1 x → (inl1 m x).length ≤ 300 * wt1 x
  | ⟨k, s, t, n, mm, fl, l⟩, ho => by
    rw [ok1] at ho
    have h := inl_len m l ho.2
    have hs : s.data.toList.length = s.size := by rw [Array.length_toList]; rfl
    have ht : t.data.toList.length = t.size := by rw [Array.length_toList]; rfl
    have h1 := leafT_len m k s.data.toList fl ho.1.1 ho.1.2.1
    have h2 := (hrf_len s.data.toList).2
    have h3 := (htm_len t.data.toList).2
    have h4 := (htm_len (rdT l)).2
    have h5 := rdT_len l
    have h6 := atr_len [116, 105, 116, 108, 101] (htm t.data.toList)
    rw [inl1, wt1]
    simp only [List.length_cons, List.length_nil] at h6
    split
    · rw [tagd_len]; simp only [List.length_append, List.length_cons, List.length_nil]; omega
    split
    · rw [tagd_len]; simp only [List.length_append, List.length_cons, List.length_nil]; omega
    split
    · rw [tagd_len]; simp only [List.length_append, List.length_cons, List.length_nil]; omega
    split
    · rw [tagd_len]; simp only [List.length_append, List.length_cons, List.length_nil]; omega
    split
    · simp only [List.length_append, List.length_cons, List.length_nil]; omega
    · omega
theorem inl_len (m : Int) : ∀ l : List Nd, okl l → (inl m l).length ≤ 300 * wt l
  | [], _ => by rw [inl, wt]; exact Nat.le_refl _
  | x :: r, ho => by
    rw [okl] at ho
    have h1 := inl1_len m x ho.1
    have h2 := inl_len m r ho.2
    rw [inl, wt, List.length_append]
    omega
end
end Go.Proofs.YtchdkiakdnanhaaGreatDoor.Pl

namespace Go.Proofs.YtchdkiakdnanhaaGreatDoor.Pl
open Go.RowKit Go.Proofs.YtchdkiakdnanhaaGreatDoor.PA
set_option linter.unusedVariables false

theorem alnT_len (n : Int) : (alnT n).length ≤ 20 := by
  unfold alnT
  split
  · decide
  split
  · decide
  split
  · decide
  · decide
theorem celT_len (m : Int) {tag : List UInt8} (ht : tag.length = 2) {c : Nd} (hc : ok1 c) : (celT m tag c).length ≤ 300 * wt1 c := by
  have h1 := inl_len m c.f6 (ok1_eta hc).2
  have h2 := alnT_len c.f3
  have h3 := wt1_eta c
  unfold celT
  rw [List.length_append, tagd_len, List.length_singleton]
  omega
theorem cels_len (m : Int) {tag : List UInt8} (ht : tag.length = 2) : ∀ {l : List Nd}, okl l → (l.flatMap (celT m tag)).length ≤ 300 * wt l
  | [], _ => by simp
  | x :: r, h => by
    rw [okl] at h
    have h1 := celT_len m ht h.1
    have h2 := cels_len m ht h.2
    rw [List.flatMap_cons, List.length_append, wt]
    omega
theorem rowT_len (m : Int) {tag : List UInt8} (ht : tag.length = 2) {r : Nd} (hr : ok1 r) : (rowT m tag r).length ≤ 300 * wt1 r := by
  have h1 := cels_len m ht (ok1_eta hr).2
  have h3 := wt1_eta r
  unfold rowT
  simp only [List.length_append, List.length_cons, List.length_nil]
  omega
theorem rows_len (m : Int) {tag : List UInt8} (ht : tag.length = 2) : ∀ {l : List Nd}, okl l → (l.flatMap (rowT m tag)).length ≤ 300 * wt l
  | [], _ => by simp
  | x :: r, h => by
    rw [okl] at h
    have h1 := rowT_len m ht h.1
    have h2 := rows_len m ht h.2
    rw [List.flatMap_cons, List.length_append, wt]
    omega
theorem tblT_len (m : Int) {l : List Nd} (h : okl l) : (tblT m l).length ≤ 60 + 300 * wt l := by
  have h1 := rows_len m (tag := [116, 104]) rfl (okl_take h 1)
  have h2 := rows_len m (tag := [116, 100]) rfl (okl_drop h 1)
  have h3 := wt_append (l.take 1) (l.drop 1)
  rw [List.take_append_drop] at h3
  unfold tblT
  split
  · simp only [List.length_append, List.length_cons, List.length_nil]; omega
  · simp only [List.length_append, List.length_cons, List.length_nil]; omega
theorem wrdT_len (t : List UInt8) : (wrdT t).length ≤ t.length := (List.takeWhile_sublist _).length_le
theorem codT_len (s t : List UInt8) : (codT s t).length ≤ 80 + 6 * s.length + 6 * t.length := by
  have h1 := (htm_len s).2
  have h2 := (htm_len (wrdT t)).2
  have h3 := wrdT_len t
  have h4 := atr_len [99, 108, 97, 115, 115] ([108, 97, 110, 103, 117, 97, 103, 101, 45] ++ htm (wrdT t))
  simp only [List.length_append, List.length_cons, List.length_nil] at h4
  unfold codT
  split
  · simp only [List.length_append, List.length_cons, List.length_nil]; omega
  · simp only [List.length_append, List.length_cons, List.length_nil]; omega
theorem lstO_len {n mm : Int} (hn : i64 n) : (lstO n mm).length ≤ 50 := by
  have h1 := itoa_len (n := max n 0) (by have := hn.1; omega) (by have := hn.2; omega)
  have h2 := atr_len [115, 116, 97, 114, 116] (Lib.itoa (max n 0))
  simp only [List.length_cons, List.length_nil] at h2
  unfold lstO
  split <;> split <;> simp only [List.length_append, List.length_cons, List.length_nil] <;> omega
theorem lstC_len (mm : Int) : (lstC mm).length ≤ 6 := by
  unfold lstC
  split <;> simp
mutual
theorem blk1_len (m : Int) : ∀ x : Nd, ok1 x → (blk1 m x).length + 10 ≤ 300 * wt1 x
  | ⟨k, s, t, n, mm, fl, l⟩, ho => by
    rw [ok1] at ho
    have h := inl_len m l ho.2
    have hb := blk_len m l ho.2
    have hi := itms_len m fl l ho.2
    have hs : s.data.toList.length = s.size := by rw [Array.length_toList]; rfl
    have ht : t.data.toList.length = t.size := by rw [Array.length_toList]; rfl
    have h1 := itoa_len (n := min (max n 1) 6) (by omega) (by omega)
    have h2 := rawT_len m s.data.toList
    have h3 := (htm_len t.data.toList).2
    have h4 := codT_len s.data.toList t.data.toList
    have h5 := tblT_len m ho.2
    have h6 := atr_len [105, 100] (htm t.data.toList)
    have h7 := lstO_len (mm := mm) ho.1.1
    have h8 := lstC_len mm
    rw [blk1, wt1]
    simp only [List.length_cons, List.length_nil] at h6
    split
    · rw [List.length_append, tagd_len]; simp only [List.length_append, List.length_cons, List.length_nil]; omega
    split
    · rw [List.length_append, tagd_len]; simp only [List.length_append, List.length_cons, List.length_nil]; omega
    split
    · simp only [List.length_append, List.length_cons, List.length_nil]; omega
    split
    · omega
    split
    · omega
    split
    · simp only [List.length_append, List.length_cons, List.length_nil]; omega
    split
    · simp only [List.length_append]; omega
    split
    · omega
    · omega
theorem blk_len (m : Int) : ∀ l : List Nd, okl l → (blk m l).length ≤ 300 * wt l
  | [], _ => by rw [blk, wt]; exact Nat.le_refl _
  | x :: r, ho => by
    rw [okl] at ho
    have h1 := blk1_len m x ho.1
    have h2 := blk_len m r ho.2
    rw [blk, wt, List.length_append]
    omega
theorem itmT_len (m : Int) (fl : Bool) : ∀ x : Nd, ok1 x → (itmT m fl x).length + 10 ≤ 300 * wt1 x
  | ⟨k, s, t, n, mm, f, l⟩, ho => by
    rw [ok1] at ho
    have hb := blk_len m l ho.2
    have hi := tght_len m true l ho.2
    rw [itmT, wt1]
    split
    · split <;> simp only [List.length_append, List.length_cons, List.length_nil] <;> omega
    · simp only [List.length_append, List.length_cons, List.length_nil]; omega
theorem itms_len (m : Int) (fl : Bool) : ∀ l : List Nd, okl l → (itms m fl l).length ≤ 300 * wt l
  | [], _ => by rw [itms, wt]; exact Nat.le_refl _
  | x :: r, ho => by
    rw [okl] at ho
    have h1 := blk1_len m x ho.1
    have h3 := itmT_len m fl x ho.1
    have h2 := itms_len m fl r ho.2
    rw [itms, wt, List.length_append]
    split <;> omega
theorem tght_len (m : Int) (first : Bool) : ∀ l : List Nd, okl l → (tght m first l).length ≤ 300 * wt l
  | [], _ => by rw [tght, wt]; exact Nat.le_refl _
  | x :: r, ho => by
    rw [okl] at ho
    have h1 := blk1_len m x ho.1
    have h3 := inl_len m x.f6 (ok1_eta ho.1).2
    have h4 := wt1_eta x
    have h2 := tght_len m false r ho.2
    rw [tght, wt, List.length_append]
    split
    · split <;> simp only [List.length_append, List.length_cons, List.length_nil] <;> omega
    · split <;> simp only [List.length_append, List.length_cons, List.length_nil] <;> omega
end
/-- One of a list's. -/
def itm1 (m : Int) (fl : Bool) (x : Nd) : List UInt8 := if x.f0 = 4 then itmT m fl x else blk1 m x
theorem itms_append (m : Int) (fl : Bool) : ∀ a b : List Nd, itms m fl (a ++ b) = itms m fl a ++ itms m fl b
  | [], b => by simp [itms]
  | x :: a, b => by rw [List.cons_append, itms, itms, itms_append m fl a b, List.append_assoc]
theorem itms_take (m : Int) (fl : Bool) {l : List Nd} {i : Nat} (h : i < l.length) : itms m fl (l.take (i + 1)) = itms m fl (l.take i) ++ itm1 m fl l[i] := by
  rw [take_succ h, itms_append]
  congr 1
  rw [itms, itms, List.append_nil]
  rfl
/-- An item's block, tight. -/
def tgh1 (m : Int) (first last : Bool) (x : Nd) : List UInt8 := if x.f0 = 7 then inl m x.f6 ++ (if last then [] else [10]) else (if first then [10] else []) ++ blk1 m x
/-- The first i of an item's blocks, tight. -/
def tghN (m : Int) (l : List Nd) : Nat → List UInt8
  | 0 => []
  | i + 1 => tghN m l i ++ (match l[i]? with | some x => tgh1 m (i == 0) (i + 1 == l.length) x | none => [])
theorem tght_eq (m : Int) : ∀ (r p : List Nd), tghN m (p ++ r) p.length ++ tght m (p.length == 0) r = tghN m (p ++ r) (p ++ r).length
  | [], p => by rw [tght]; simp
  | x :: r, p => by
    have h := tght_eq m r (p ++ [x])
    rw [List.append_assoc] at h
    have e1 : [x] ++ r = x :: r := rfl
    rw [e1, List.length_append, List.length_singleton] at h
    rw [← h, tght, tghN, List.append_assoc]
    have e2 : (p ++ x :: r)[p.length]? = some x := by rw [List.getElem?_append_right (Nat.le_refl _), Nat.sub_self]; rfl
    rw [e2]
    congr 1
    unfold tgh1
    have e3 : (p.length + 1 == (p ++ x :: r).length) = decide (r = []) := by
      rw [List.length_append, List.length_cons]
      cases r with
      | nil => simp
      | cons y t => simp
    have e4 : (p.length + 1 == 0) = false := by simp
    rw [e3, e4]
    simp
theorem tghN_end (m : Int) (l : List Nd) : tghN m l l.length = tght m true l := by
  have h := tght_eq m l []
  simp [tghN] at h
  exact h.symm
theorem tghN_step (m : Int) {l : List Nd} {i : Nat} (h : i < l.length) : tghN m l (i + 1) = tghN m l i ++ tgh1 m (i == 0) (i + 1 == l.length) l[i] := by rw [tghN, List.getElem?_eq_getElem h]
theorem tghN_len (m : Int) {l : List Nd} (ho : okl l) : ∀ i, i ≤ l.length → (tghN m l i).length ≤ 300 * wt (l.take i)
  | 0, _ => by simp [tghN]
  | i + 1, h => by
    have h1 := tghN_len m ho i (by omega)
    have hx := okl_mem ho (List.getElem_mem (show i < l.length from h))
    have h2 := blk1_len m l[i] hx
    have h3 := inl_len m (l[i]).f6 (ok1_eta hx).2
    have h4 := wt1_eta l[i]
    have h5 : wt (l.take (i + 1)) = wt (l.take i) + wt1 l[i] := by rw [take_succ h, wt_append, wt, wt]; rfl
    rw [tghN_step m h, List.length_append, h5]
    unfold tgh1
    split
    · split <;> simp only [List.length_append, List.length_cons, List.length_nil] <;> omega
    · split <;> simp only [List.length_append, List.length_cons, List.length_nil] <;> omega
end Go.Proofs.YtchdkiakdnanhaaGreatDoor.Pl

namespace Go.Proofs.YtchdkiakdnanhaaGreatDoor.PA
open Go.RowKit Go.Sort Go.Proofs.YtchdkiakdnanhaaGreatDoor.Pl Go.Proofs.YtchdkiakdnanhaaGreatDoorW.PrintWords Go.Proofs.YtchdkiakdnanhaaGreatDoorW.PrintLast Go.Proofs.YtchdkiakdnanhaaGreatDoorW.PrintMore
set_option linter.unusedVariables false

/-- A row of bytes in block g. -/
def Byt (g : Nat) (l : List UInt8) (w : World) : Prop := ∃ cur fz, w.heap[g]? = some (.cells cur 5 fz) ∧ l.length ≤ fz.1 ∧ ∀ j, (hj : j < l.length) → cur[j]? = some (.int .u8 (l[j].toNat : Int))
theorem Byt.cell {g : Nat} {l : List UInt8} {w : World} (h : Byt g l w) {j : Nat} (hj : j < l.length) : w.cell? ⟨g, j, none⟩ = some (.int .u8 (l[j].toNat : Int)) := by
  obtain ⟨cur, fz, h1, _, h3⟩ := h
  simp [World.cell?, h1, h3 j hj]
theorem Byt.frozen {g : Nat} {l : List UInt8} {w : World} (h : Byt g l w) {j : Nat} (hj : j < l.length) : w.frozen? ⟨g, j, none⟩ = false := by
  obtain ⟨cur, fz, h1, h2, h3⟩ := h
  simp [World.frozen?, h1]
  omega
theorem Byt.set {g : Nat} {l : List UInt8} {w : World} (h : Byt g l w) {j : Nat} (hj : j < l.length) (x : UInt8) : Byt g (l.set j x) (w.setCell ⟨g, j, none⟩ (.int .u8 (x.toNat : Int))) := by
  obtain ⟨cur, fz, h1, h2, h3⟩ := h
  have hlt : g < w.heap.size := (Array.getElem?_eq_some_iff.1 h1).1
  refine ⟨cur.setIfInBounds j (.int .u8 (x.toNat : Int)), fz, by simp [World.setCell, Array.getElem?_modify, h1], by rw [List.length_set]; exact h2, fun i hi => ?_⟩
  rw [List.length_set] at hi
  rw [Array.getElem?_setIfInBounds, List.getElem_set]
  have hs : j < cur.size := (Array.getElem?_eq_some_iff.1 (h3 j hj)).1
  split
  · first | rfl | rw [if_pos hs]
  · exact h3 i hi
theorem byt_new (w : World) (s : List UInt8) : Byt w.heap.size s (Lib.bytesWorld w 5 (B s)) := by
  refine ⟨_, _, Lib.bytesWorld_at_new w 5 (B s), ?_, fun j hj => ?_⟩
  · simp [Lib.bytesCells, B]
  · have h := Lib.bytesWorld_cell w 5 (B s) j (by rw [B_size]; exact hj)
    rw [B_data, List.getD_eq_getElem?_getD, List.getElem?_eq_getElem hj] at h
    have h2 := Lib.bytesWorld_at_new w 5 (B s)
    simpa [World.cell?, h2] using h
def lw1 (x : UInt8) : UInt8 := if 65 ≤ x.toNat ∧ x.toNat ≤ 90 then x + 32 else x
theorem lwr_eq (l : List UInt8) : lwr l = l.map lw1 := rfl
/-- The first i without capitals. -/
def lwN (l : List UInt8) (i : Nat) : List UInt8 := (l.take i).map lw1 ++ l.drop i
theorem lwN_len (l : List UInt8) (i : Nat) (h : i ≤ l.length) : (lwN l i).length = l.length := by
  unfold lwN
  rw [List.length_append, List.length_map, List.length_take, List.length_drop]
  omega
theorem lwN_at (l : List UInt8) (i : Nat) (h : i < l.length) (h2 : i < (lwN l i).length) : (lwN l i)[i] = l[i] := by
  have h3 : (lwN l i)[i]? = some l[i] := by
    unfold lwN
    rw [List.getElem?_append_right (by rw [List.length_map, List.length_take]; omega)]
    simp [Nat.min_eq_left (Nat.le_of_lt h), h]
  exact Option.some.inj ((List.getElem?_eq_getElem h2).symm.trans h3)
theorem lwN_step (l : List UInt8) (i : Nat) (h : i < l.length) : (lwN l i).set i (lw1 l[i]) = lwN l (i + 1) := by
  unfold lwN
  rw [List.set_append_right _ _ (by rw [List.length_map, List.length_take]; omega), List.length_map, List.length_take, Nat.min_eq_left (Nat.le_of_lt h), Nat.sub_self, List.drop_eq_getElem_cons h, List.set_cons_zero, List.take_add_one, List.getElem?_eq_getElem h, List.map_append, List.append_assoc]
  rfl
theorem lwN_zero (l : List UInt8) : lwN l 0 = l := by simp [lwN]
theorem lwN_end (l : List UInt8) : lwN l l.length = lwr l := by simp [lwN, lwr_eq]
theorem or_low (x : UInt8) (h1 : 65 ≤ x.toNat) (h2 : x.toNat ≤ 90) : bits .or .u8 (x.toNat : Int) 32 = ((lw1 x).toNat : Int) := by
  have h : ∀ y : Fin 256, 65 ≤ y.val → y.val ≤ 90 → bits .or .u8 (y.val : Int) 32 = ((lw1 (UInt8.ofNat y.val)).toNat : Int) := by decide +kernel
  have := h ⟨x.toNat, x.toNat_lt⟩ h1 h2
  simpa using this
theorem add_low (x : UInt8) (h1 : 65 ≤ x.toNat) (h2 : x.toNat ≤ 90) : ((x.toNat : Int) + 32) = ((lw1 x).toNat : Int) := by
  have h : ∀ y : Fin 256, 65 ≤ y.val → y.val ≤ 90 → ((y.val : Int) + 32) = ((lw1 (UInt8.ofNat y.val)).toNat : Int) := by decide +kernel
  have := h ⟨x.toNat, x.toNat_lt⟩ h1 h2
  simpa using this
theorem lw1_no (x : UInt8) (h : ¬ (65 ≤ x.toNat ∧ x.toNat ≤ 90)) : lw1 x = x := by unfold lw1; rw [if_neg h]
set_option maxHeartbeats 2000000 in
set_option maxRecDepth 100000 in
theorem low_calls (s : List UInt8) (hs : s.length ≤ 4294967296) (w : World) :
    Calls Tryz.prog 55 #[.string (B s)] w fun e w' => e = .returned (.string (B (lwr s))) ∧ Below w.heap.size w w' := by
  have hcv := Lib.run_convert_string_bytes (P := Tryz.prog) w 9 36 5 (B s) Tryz.underlying9 Tryz.underlying36 Tryz.underlying5
  rw [B_size] at hcv
  obtain ⟨cp, hcp⟩ : ∃ cp, grownCap w s.length 0 5 = cp := ⟨_, rfl⟩
  rw [hcp] at hcv
  obtain ⟨w1, hw1⟩ : ∃ w1, Lib.bytesWorld w 5 (B s) = w1 := ⟨_, rfl⟩
  have hb1 : Below w.heap.size w w1 := hw1 ▸ Lib.bytesWorld_below w _ _
  have hy : Byt w.heap.size s w1 := hw1 ▸ byt_new w s
  rw [hw1] at hcv
  obtain ⟨g, hg⟩ : ∃ g, w.heap.size = g := ⟨_, rfl⟩
  have hbk := fun (W : World) (hW : Byt g (lwr s) W) => run_convert_bytes_back (P := Tryz.prog) W 36 9 5 ⟨g, 0, none⟩ cp (lwr s) Tryz.underlying36 Tryz.underlying5 Tryz.underlying9 (fun j hj => by rw [show (⟨g, 0, none⟩ : Addr).add j = ⟨g, j, none⟩ from by simp [Addr.add]; omega]; exact hW.cell hj)
  have hll : (lwr s).length = s.length := by rw [lwr_eq, List.length_map]
  rw [hll] at hbk
  rw [hg] at hcv hb1 hy ⊢
  have HB1 := Aside0.mk hb1
  have HY := Aside0.mk hy
  have HBK := Aside0.mk hbk
  clear hb1 hy hbk hw1 hcp hll
  go_enter Tryz.func55, Tryz.ntmps55
  go_wp2_with fail
  go_loopw [4, 5, 10] (fun v4 v5 v10 wr => ∃ i : Nat, v10 = .int .i64 (i : Int) ∧ i ≤ s.length ∧ Aside0 (Byt g (lwN s i) wr) ∧ Aside0 (Below g w wr)) (fun _ _ v10 _ => s.length - (intOf v10).toNat)
  case atStart => exact ⟨0, rfl, by omega, ⟨by rw [lwN_zero]; exact HY.out⟩, HB1⟩
  case round =>
    obtain ⟨i, rfl, hi, HYr, HB⟩ := hrel
    by_cases hlt : i < s.length
    · have q1 : decide ((i : Int) < (s.length : Int)) = true := decide_eq_true (by omega)
      have p0 := eq_true (show 0 ≤ (i : Int) from by omega)
      have p1 := eq_true (show (i : Int) < (s.length : Int) from by omega)
      have hil : i < (lwN s i).length := by rw [lwN_len s i hi]; exact hlt
      have x0 := HYr.out.cell hil
      rw [lwN_at s i hlt hil] at x0
      have f0 := HYr.out.frozen hil
      obtain ⟨x, hx⟩ : ∃ x, s[i] = x := ⟨_, rfl⟩
      rw [hx] at x0
      have HX := Aside0.mk hx
      have HIL := Aside0.mk hil
      have hgw : g < wr.heap.size := by obtain ⟨_, _, h1, _⟩ := HYr.out; exact (Array.getElem?_eq_some_iff.1 h1).1
      clear hx hil
      by_cases hc : 65 ≤ x.toNat ∧ x.toNat ≤ 90
      · have z1 : decide ((65 : Int) ≤ (x.toNat : Int)) = true := decide_eq_true (by omega)
        have z2 : decide ((x.toNat : Int) ≤ 90) = true := decide_eq_true (by omega)
        have hor := or_low x hc.1 hc.2
        have HY2 := Aside0.mk (show Byt g (lwN s (i + 1)) (wr.setCell ⟨g, i, none⟩ (.int .u8 ((lw1 x).toNat : Int))) from by
          have h := HYr.out.set HIL.out (lw1 x)
          rw [← HX.out, lwN_step s i hlt, HX.out] at h
          exact h)
        have HB2 := Aside0.mk (show Below g w (wr.setCell ⟨g, i, none⟩ (.int .u8 ((lw1 x).toNat : Int))) from HB.out.setCell (p := ⟨g, i, none⟩) (Nat.le_refl _) _)
        clear hc
        go_wp2
        go_roundw
        case rel => exact ⟨i + 1, by simp, by omega, HY2, HB2⟩
        case measure => simp [intOf]; omega
      · have HY2 := Aside0.mk (show Byt g (lwN s (i + 1)) wr from by
          have e := lwN_step s i hlt
          rw [HX.out, lw1_no x hc] at e
          have e2 : (lwN s i).set i x = lwN s i := by
            refine List.ext_getElem (by rw [List.length_set]) fun j h1 h2 => ?_
            rw [List.getElem_set]
            split
            · rename_i e3
              subst e3
              rw [lwN_at s i hlt h2, HX.out]
            · rfl
          rw [← e, e2]
          exact HYr.out)
        by_cases h65 : 65 ≤ x.toNat
        · have z1 : decide ((65 : Int) ≤ (x.toNat : Int)) = true := decide_eq_true (by omega)
          have z2 : decide ((x.toNat : Int) ≤ 90) = false := decide_eq_false (by omega)
          clear hc h65
          go_wp2
          go_roundw
          case rel => exact ⟨i + 1, by simp, by omega, HY2, HB⟩
          case measure => simp [intOf]; omega
        · have z1 : decide ((65 : Int) ≤ (x.toNat : Int)) = false := decide_eq_false (by omega)
          clear hc h65
          go_wp2
          go_roundw
          case rel => exact ⟨i + 1, by simp, by omega, HY2, HB⟩
          case measure => simp [intOf]; omega
    · have q1 : decide ((i : Int) < (s.length : Int)) = false := decide_eq_false (by omega)
      have hie : i = s.length := by omega
      rw [hie, lwN_end] at HYr
      have hbk := HBK.out _ HYr.out
      clear hie
      go_wp2
      go_ret
      exact ⟨rfl, HB.out⟩
end Go.Proofs.YtchdkiakdnanhaaGreatDoor.PA

namespace Go.Proofs.YtchdkiakdnanhaaGreatDoor.PA
open Go.RowKit Go.Proofs.YtchdkiakdnanhaaGreatDoorW.PrintWords

theorem ex_then_ret {next : Act → World → Prop} {Q : Exit → Act → World → Prop} {a : Act} {w : World} (h : Q Exit.ret a w) : Exit.then next Q Exit.ret a w := h
theorem ex_block_ret {id : Nat} {Q : Exit → Act → World → Prop} {a : Act} {w : World} (h : Q Exit.ret a w) : Exit.inBlock id Q Exit.ret a w := h
theorem ex_noGoto_ret {Q : Exit → Act → World → Prop} {a : Act} {w : World} (h : Q Exit.ret a w) : Exit.noGoto Q Exit.ret a w := h
theorem szw {p n q : Nat} {m : Int} (h : ¬ 9223372036854775807 < p + n + q) (h0 : 0 ≤ m) (hm : m ≤ ((p + q : Nat) : Int)) : wrap64 ((n : Int) + m) = (n : Int) + m := by unfold wrap64; omega
theorem szn {a b : Nat} (h : a + b ≤ 9223372036854775807) : wrap64 ((a : Int) + (b : Int)) = (a : Int) + (b : Int) := by unfold wrap64; omega
theorem retEq {x a b : Int} (h : b = a) : Ending.returned (Value.bool (x == a)) = Ending.returned (Value.bool (x == b)) := by rw [h]
theorem retNe (l : List UInt8) : Ending.returned (Value.bool (!l.isEmpty)) = Ending.returned (Value.bool (l != ([] : List UInt8))) := by cases l <;> rfl
/-- internal/bytealg.MaxLen holds a whole number. -/
structure Laid (w : World) : Prop where
  ml : ∃ m : Int, w.cell? ⟨0, 0, none⟩ = some (.int .i64 m)
  size : 0 < w.heap.size
theorem Laid.go {w W : World} (h : Laid w) (hb : Below w.heap.size w W) : Laid W := by
  obtain ⟨m, hm⟩ := h.ml
  refine ⟨⟨m, ?_⟩, by have := h.size; have := hb.size; omega⟩
  rw [← hm]
  exact hb.cell (by have := h.size; show 0 < w.heap.size; omega)
end Go.Proofs.YtchdkiakdnanhaaGreatDoor.PA

namespace Go.Proofs.YtchdkiakdnanhaaGreatDoor.PA
open Go.RowKit Go.Proofs.YtchdkiakdnanhaaGreatDoor.Pl Go.Proofs.YtchdkiakdnanhaaGreatDoorW.PrintWords
set_option linter.unusedVariables false

/-- The table of powers of ten lies as the program's text lays it; internal/bytealg.MaxLen holds a whole number. -/
structure LaidW (w : World) : Prop where
  tab : Lib.TabIs Tryz.prog w "internal/strconv.uint64pow10" .u64 Lib.pow10Tab
  mx : Laid w
theorem tab_go {w W : World} (h : Lib.TabIs Tryz.prog w "internal/strconv.uint64pow10" .u64 Lib.pow10Tab) (hb : Below w.heap.size w W) : Lib.TabIs Tryz.prog W "internal/strconv.uint64pow10" .u64 Lib.pow10Tab := by
  unfold Lib.TabIs World.var? at h ⊢
  obtain ⟨g, hg, h⟩ := Option.bind_eq_some_iff.1 h
  rw [hg, Option.bind_some]
  have hlt : g < w.heap.size := by
    refine Nat.lt_of_not_le fun hle => ?_
    rw [Array.getElem?_eq_none hle] at h
    cases h
  rw [hb.block g hlt]
  exact h
theorem LaidW.go {w W : World} (h : LaidW w) (hb : Below w.heap.size w W) : LaidW W := ⟨tab_go h.tab hb, h.mx.go hb⟩
theorem lays171M : LaysM.n171 Tryz.prog Tryz.lays171_ren := { Tryz.lays171 with i0 := by kernel_rfl, i2 := by kernel_rfl, i3 := by kernel_rfl, i4 := by kernel_rfl, i5 := by kernel_rfl, i9 := by kernel_rfl, i20 := by kernel_rfl, i37 := by kernel_rfl, i46 := by kernel_rfl, i51 := by kernel_rfl, i53 := by kernel_rfl, i171 := by kernel_rfl, i173 := by kernel_rfl, i212 := by kernel_rfl, i232 := by kernel_rfl, i233 := by kernel_rfl, m17 := by kernel_rfl, m18 := by kernel_rfl, m19 := by kernel_rfl }
theorem itoa_any (n : Int) (h0 : -9223372036854775808 ≤ n) (h1 : n ≤ 9223372036854775807) (w : World) (hL : LaidW w) :
    Calls Tryz.prog 29 #[.int .i64 n] w fun e w' => e = .returned (.string (B (Lib.itoa n))) ∧ Below w.heap.size w w' := by
  refine (Any.strconv_Itoa lays171M n h0 h1 w hL.tab).mono ?_
  rintro e w' ⟨rfl, k, os, rfl⟩
  exact ⟨rfl, ⟨rfl, rfl, rfl, by simp [Go.Sort.grow], fun i hi => by simp only [Go.Sort.grow]; exact Array.getElem?_append_left hi⟩⟩
end Go.Proofs.YtchdkiakdnanhaaGreatDoor.PA

namespace Go.Proofs.YtchdkiakdnanhaaGreatDoor.PA
open Go.RowKit Go.Proofs.YtchdkiakdnanhaaGreatDoorW.PrintWords Go.Proofs.YtchdkiakdnanhaaGreatDoorW.PrintLast Go.Proofs.YtchdkiakdnanhaaGreatDoorW.PrintMore
set_option linter.unusedVariables false

theorem ia_data (s : ByteArray) (i : Nat) (hi : i < s.size) : s.data.toList[i]? = some (s[i]'hi) := Lib.data_getElem? s i hi

set_option maxHeartbeats 1000000 in
set_option maxRecDepth 100000 in
theorem ia_bad (s : ByteArray) (w : World) (hs : s.size ≤ 4294967280) (ha : ∀ (j : Nat) b, s.data.toList[j]? = some b → b.toNat < 128) :
    Calls Tryz.prog 51 #[.string s, .int .i32 65533] w fun e w' => e = .returned (.int .i64 (-1)) ∧ Below w.heap.size w w' := by
  have HA := Aside0.mk ha
  clear ha
  go_enter Tryz.func51, Tryz.ntmps51
  go_wp2
  go_loopg [5, 6] s.size (fun g _ _ wx => ∃ i : Nat, i + g = s.size ∧ wx = w.iter s i)
  case atStart => exact ⟨0, by omega, rfl⟩
  case round =>
    obtain ⟨i, hig, rfl⟩ := hrel
    cases gk with
    | zero =>
      obtain rfl : i = s.size := by omega
      have hnx := run_next_end (P := Tryz.prog) w s s.size
      go_wp2
      go_ret
      exact ⟨rfl, (Below.refl _ w).alloc (Nat.le_refl _) _⟩
    | succ g =>
      have hi : i < s.size := by omega
      obtain ⟨x, hx⟩ : ∃ x : UInt8, s[i]'hi = x := ⟨_, rfl⟩
      have hx128 : x.toNat < 128 := HA.out i x (by rw [← hx]; exact ia_data s i hi)
      have hnx := fun ty => run_next_ascii (P := Tryz.prog) w s i ty hi (by rw [hx]; exact hx128)
      rw [hx] at hnx
      clear hx
      have hne : ((x.toNat : Int) == 65533) = false := beq_eq_false_iff_ne.2 (by omega)
      go_wp2
      go_roundg g
      case measure => omega
      case rel => exact ⟨i + 1, by omega, rfl⟩

theorem ia_none (l : List UInt8) (c : UInt8) (ha : ∀ (j : Nat) b, l[j]? = some b → b.toNat < 128) (hc : 128 ≤ c.toNat) : Lib.indexByte l c = -1 := by
  induction l with
  | nil => rfl
  | cons b l ih =>
    have h0 : b.toNat < 128 := ha 0 b rfl
    have hb : (b == c) = false := beq_eq_false_iff_ne.2 (fun e => by rw [e] at h0; omega)
    have := ih (fun j x hj => ha (j + 1) x hj)
    simp [Lib.indexByte, hb, this]

set_option maxHeartbeats 1000000 in
set_option maxRecDepth 100000 in
theorem ia_ill (s : ByteArray) (r : Int) (w : World) (h0 : 128 ≤ r) (h1 : r ≤ 1114111) (hv : Lib.validRune r = false) :
    Calls Tryz.prog 51 #[.string s, .int .i32 r] w fun e w' => e = .returned (.int .i64 (-1)) ∧ Below w.heap.size w w' := by
  have hne : (r == 65533) = false := beq_eq_false_iff_ne.2 (fun e => by subst e; simp [Lib.validRune] at hv)
  have h2 : decide (r < 128) = false := decide_eq_false (by omega)
  have h3 : decide (0 ≤ r) = true := decide_eq_true (by omega)
  go_enter Tryz.func51, Tryz.ntmps51
  go_wp2_with (go_at_call 71; refine (Tryz.utf8_ValidRune _ _).mono ?_; rintro e w' ⟨rfl, hw⟩; rw [hw, hv])
  go_ret
  exact ⟨rfl, Below.refl _ w⟩

set_option maxHeartbeats 1000000 in
set_option maxRecDepth 100000 in
theorem ia_hi (s : ByteArray) (r : Int) (w : World) (hs : s.size ≤ 4294967280) (h0 : 128 ≤ r) (h1 : r ≤ 1114111) (hv : Lib.validRune r = true) (hr : r ≠ 65533) (ha : ∀ (j : Nat) b, s.data.toList[j]? = some b → b.toNat < 128) :
    Calls Tryz.prog 51 #[.string s, .int .i32 r] w fun e w' => e = .returned (.int .i64 (-1)) ∧ Below w.heap.size w w' := by
  have hne : (r == 65533) = false := beq_eq_false_iff_ne.2 hr
  have h2 : decide (r < 128) = false := decide_eq_false (by omega)
  have h3 : decide (0 ≤ r) = true := decide_eq_true (by omega)
  have hvv : Utf8.valid r = true := by
    unfold Lib.validRune at hv
    unfold Utf8.valid
    simp at hv ⊢
    omega
  obtain ⟨e1, e2, e3⟩ := encode_facts r hvv h0
  clear hvv
  have HA := Aside0.mk ha
  clear ha hr
  obtain ⟨rs, hrs⟩ : ∃ rs, Utf8.encode r = rs := ⟨_, rfl⟩
  rw [hrs] at e1 e2 e3
  obtain ⟨n, hn⟩ : ∃ n, rs.size = n + 1 := ⟨rs.size - 1, by omega⟩
  have e4 : ∀ h : n < rs.size, 128 ≤ (rs[n]'h).toNat := by
    intro h
    have h' : rs.size - 1 < rs.size := by omega
    have := e3 h'
    simp only [show rs.size - 1 = n from by omega] at this
    exact this
  have E4 := Aside0.mk e4
  clear e3 e4
  go_enter Tryz.func51, Tryz.ntmps51
  go_wp2_with (go_at_call 71; refine (Tryz.utf8_ValidRune _ _).mono ?_; rintro e w' ⟨rfl, hw⟩; rw [hw, hv])
  subst hw
  go_step3
  go_wp2
  go_loopg [9, 10] 0 (fun g v9 v10 wx => v9 = .int .i64 (n : Int) ∧ v10 = .int .i64 0 ∧ wx = w')
  case atStart => exact ⟨rfl, rfl, rfl⟩
  case round =>
    obtain ⟨rfl, rfl, rfl⟩ := hrel
    by_cases hlt : n < s.size
    · have hn2 : n < rs.size := by omega
      have hq := E4.out hn2
      have hp := HA.out _ _ (ia_data s n hlt)
      have hpq : (((s[n]'hlt).toNat : Int) != ((rs[n]'hn2).toNat : Int)) = true := by rw [bne_iff_ne]; omega
      go_wp2
      go_step3
      go_wp2
      have HN := Aside0.mk hn
      clear hn
      have hqi0 : (0 : Int) ≤ (n : Int) := by omega
      have hqi1 : (n : Int) < (rs.size : Int) := by omega
      go_quiet (fail)
      obtain ⟨w1, hw1⟩ : ∃ w1, w1 = wr.drewN nq := ⟨_, rfl⟩
      rw [← hw1]
      have hbw : Below wr.heap.size wr w1 := by rw [hw1]; exact pw_below_drewN (Below.refl _ _) _
      clear hw1
      go_wp2
      have hq3 : (n : Int) + 1 ≤ (s.size : Int) := by omega
      have hq4 : (0 : Int) ≤ (n : Int) + 1 := by omega
      have hix : Lib.indexByte (s.extract (n + 1) s.size).data.toList rs[n] = -1 := by
        refine ia_none _ _ (fun j b hj => ?_) hq
        have hm : b ∈ s.data.toList := by
          have h1 : b ∈ (s.extract (n + 1) s.size).data.toList := List.mem_of_getElem? hj
          rw [Lib.extract_data] at h1
          exact List.mem_of_mem_drop (List.mem_of_mem_take h1)
        obtain ⟨j', hj'⟩ := List.getElem?_of_mem hm
        exact HA.out j' b hj'
      have hwr : IntKind.i64.wrap ((n : Int) + 1) = (n : Int) + 1 := IntWalk.i64_in _ (by omega)
      have htn : ((n : Int) + 1).toNat = n + 1 := by omega
      go_quiet ((go_at_call 62; exact Calls.quiet_of_same (Tryz.strings_IndexByte _ _ _)))
      clear hwr htn
      have hback : ((rs[n].toNat : Int)).toNat.toUInt8 = rs[n] := by simp
      rw [hback, hix]
      obtain ⟨w2, hw2⟩ : ∃ w2, w2 = w1.drewN nq := ⟨_, rfl⟩
      rw [← hw2]
      have hbw2 : Below wr.heap.size wr w2 := by rw [hw2]; exact pw_below_drewN hbw _
      clear hw2
      go_wp2
      repeat (first | refine ex_noGoto_ret ?_ | refine ex_block_ret ?_ | refine ex_then_ret ?_)
      go_ret
      exact ⟨rfl, hbw2⟩
    · go_wp2
      repeat (first | refine ex_noGoto_ret ?_ | refine ex_block_ret ?_ | refine ex_then_ret ?_)
      go_ret
      exact ⟨rfl, Below.refl _ _⟩

/-- A rune from 128 on is none of ASCII bytes. -/
theorem ia_far (s : ByteArray) (r : Int) (w : World) (hs : s.size ≤ 4294967280) (h0 : 128 ≤ r) (h1 : r ≤ 1114111) (ha : ∀ (j : Nat) b, s.data.toList[j]? = some b → b.toNat < 128) :
    Calls Tryz.prog 51 #[.string s, .int .i32 r] w fun e w' => e = .returned (.int .i64 (-1)) ∧ Below w.heap.size w w' := by
  by_cases hr : r = 65533
  · subst hr
    exact ia_bad s w hs ha
  · cases hv : Lib.validRune r
    · exact ia_ill s r w h0 h1 hv
    · exact ia_hi s r w hs h0 h1 hv hr ha

theorem ia_dn (n b0 b1 b2 b3 : Nat) : (1 < (Lib.decodeN n b0 b1 b2 b3).2 → 1 < n ∧ b1 / 64 = 2) ∧ (2 < (Lib.decodeN n b0 b1 b2 b3).2 → 2 < n ∧ b2 / 64 = 2) ∧ (3 < (Lib.decodeN n b0 b1 b2 b3).2 → 3 < n ∧ b3 / 64 = 2) ∧ (Lib.decodeN n b0 b1 b2 b3).2 ≤ 4 ∧ 1 ≤ (Lib.decodeN n b0 b1 b2 b3).2 := by
  unfold Lib.decodeN
  split
  · simp
  · split
    · rename_i h
      split <;> simp [h.2.1, h.2.2]
    · split
      · rename_i h
        split <;> simp [h.2.1.1, h.2.1.2, h.2.2.1, h.2.2.2]
      · split
        · rename_i h
          split <;> simp [h.2.1.1, h.2.1.2, h.2.2.1.1, h.2.2.1.2, h.2.2.2.1, h.2.2.2.2]
        · simp
theorem ia_get (s : ByteArray) (i : Nat) (hi : i < s.size) : s.get! i = s[i]'hi := by
  show s.data[i]! = s.data[i]
  exact getElem!_pos s.data i hi
theorem ia_rune (s : ByteArray) (i : Nat) (hi : i < s.size) (h : 128 ≤ (s[i]'hi).toNat) : i + (Utf8.decode s i).2 ≤ s.size ∧ 1 ≤ (Utf8.decode s i).2 ∧ ∀ (j : Nat) b, i ≤ j → j < i + (Utf8.decode s i).2 → s.data.toList[j]? = some b → 128 ≤ b.toNat := by
  rw [Lib.decode_at]
  obtain ⟨a1, a2, a3, a4, a5⟩ := ia_dn (s.size - i) (s.get! i).toNat (s.get! (i + 1)).toNat (s.get! (i + 2)).toNat (s.get! (i + 3)).toNat
  generalize (Lib.decodeN (s.size - i) (s.get! i).toNat (s.get! (i + 1)).toNat (s.get! (i + 2)).toNat (s.get! (i + 3)).toNat).2 = wd at *
  refine ⟨by omega, a5, fun j b h1 h2 hb => ?_⟩
  have hj : j < s.size := by
    have := (List.getElem?_eq_some_iff.1 hb).1
    rw [Array.length_toList] at this
    exact this
  have hbj : b = s.get! j := by
    rw [ia_get s j hj]
    rw [ia_data s j hj] at hb
    exact (Option.some.inj hb).symm
  subst hbj
  have h4 : j = i ∨ j = i + 1 ∨ j = i + 2 ∨ j = i + 3 := by omega
  rcases h4 with e | e | e | e <;> subst e
  · rw [ia_get s _ hi]; exact h
  · have := (a1 (by omega)).2; omega
  · have := (a2 (by omega)).2; omega
  · have := (a3 (by omega)).2; omega
theorem ia_runele (s : ByteArray) (i : Nat) : (Utf8.decode s i).1 ≤ 1114111 := by
  have h := Lib.decode_at s i
  rw [h]
  have hb : (s.get! i).toNat < 256 := UInt8.toNat_lt _
  unfold Lib.decodeN
  repeat' split
  all_goals (simp only; omega)

set_option maxHeartbeats 1000000 in
set_option maxRecDepth 100000 in
theorem ia_short (s chars : ByteArray) (w : World) (h2 : 2 ≤ chars.size) (h8 : s.size ≤ 8) (hc8 : chars.size ≤ 4294967280) (hac : ∀ (j : Nat) b, chars.data.toList[j]? = some b → b.toNat < 128) :
    Calls Tryz.prog 33 #[.string s, .string chars] w fun e w' => e = .returned (.int .i64 (Lib.indexAny s.data.toList chars.data.toList)) ∧ Below w.heap.size w w' := by
  have HA := Aside0.mk hac
  clear hac
  have hemp : chars.toList.isEmpty = false := by
    rw [Lib.toList_data]
    cases h : chars.data.toList with
    | nil => have := Lib.size_eq chars; rw [h, List.length_nil] at this; omega
    | cons _ _ => rfl
  have hn1 : ((chars.size : Int) == 1) = false := beq_eq_false_iff_ne.2 (by omega)
  have h8z : decide ((8 : Int) < (s.size : Int)) = false := decide_eq_false (by omega)
  go_enter Tryz.func33, Tryz.ntmps33
  go_wp2_with (go_at_call 52; refine (Tryz.strings_shouldUseASCIISet _ _).mono ?_; rintro e w' ⟨rfl, hw⟩; rw [hw, h8z])
  go_loopg [9, 10] s.size (fun g _ _ wx => ∃ i : Nat, i ≤ s.size ∧ s.size ≤ i + g ∧ wx.heap[w.heap.size]? = some (.stringIter s i) ∧ Below w.heap.size w wx ∧ Lib.NoAny s.data.toList chars.data.toList i)
  case atStart => exact ⟨0, by omega, by omega, World.iter_heap w s 0, (Below.refl _ w).alloc (Nat.le_refl _) _, Lib.NoAny.zero _ _⟩
  case round =>
    obtain ⟨i, hi1, hi2, hit, hbw, hno⟩ := hrel
    have HN := Aside0.mk hno
    clear hno
    have hsz : w.heap.size < wr.heap.size := (Array.getElem?_eq_some_iff.1 hit).1
    have HB := Aside0.mk hbw
    clear hbw
    by_cases hi : i < s.size
    · have hnx : ∀ ty, (Instr.next (.pointer (some ⟨w.heap.size, 0, none⟩)) true ty).run Tryz.prog wr = _ := fun ty => Lib.run_next_any_at wr w.heap.size s i ty hit hi
      obtain ⟨x, hx⟩ : ∃ x : UInt8, s[i]'hi = x := ⟨_, rfl⟩
      have Hx := Aside0.mk hx
      have hit2 := Lib.iterAt_heap wr w.heap.size s i (i + (Utf8.decode s i).2) hit
      have hbw2 := Lib.below_iterAt HB.out (k := w.heap.size) (Nat.le_refl _) s (i + (Utf8.decode s i).2)
      by_cases hlo : x.toNat < 128
      · have hd : Utf8.decode s i = (x.toNat, 1) := by
          have := decode_ascii s i hi (by rw [hx]; exact hlo)
          rw [hx] at this
          exact this
        have Hxl := Aside0.mk (show s.data.toList[i]? = some x by rw [ia_data s i hi, hx])
        clear hx Hx
        rw [hd] at hit2 hbw2
        simp only [hd] at hnx
        have HI := Aside0.mk hit2
        have HB2 := Aside0.mk hbw2
        clear hit2 hbw2 hd hit
        have hcon := Lib.contains_iff_indexByte chars.data.toList x
        have hback : ((x.toNat : Int)).toNat.toUInt8 = x := by simp
        cases hin : chars.data.toList.contains x
        · rw [hin] at hcon
          have hlt : ¬ ((0 : Int) ≤ Lib.indexByte chars.data.toList x) := of_decide_eq_false hcon.symm
          clear hcon
          go_wp2_with (go_at_call 51; refine (Tryz.strings_IndexRune_ascii _ _ _ (by omega) (by omega)).mono ?_; rintro e w' ⟨rfl, hw⟩; rw [hw, hback])
          go_roundg (gk - 1)
          case measure => omega
          case rel => exact ⟨i + 1, by omega, by omega, HI.out, HB2.out, HN.out.succ Hxl.out hin⟩
        · rw [hin] at hcon
          have hge : (0 : Int) ≤ Lib.indexByte chars.data.toList x := of_decide_eq_true hcon.symm
          clear hcon
          go_wp2_with (go_at_call 51; refine (Tryz.strings_IndexRune_ascii _ _ _ (by omega) (by omega)).mono ?_; rintro e w' ⟨rfl, hw⟩; rw [hw, hback])
          go_ret
          exact ⟨by rw [Lib.indexAny_hit HN.out Hxl.out hin]; rfl, HB2.out⟩
      · obtain ⟨g1, g2, g3⟩ := ia_rune s i hi (by rw [hx]; omega)
        have hr1 := (decode_high s i hi (by rw [hx]; omega)).1
        have hr2 := ia_runele s i
        clear hx
        have HI := Aside0.mk hit2
        have HB2 := Aside0.mk hbw2
        have hsz2 : (wr.iterAt w.heap.size s (i + (Utf8.decode s i).2)).heap.size = wr.heap.size := Lib.iterAt_size _ _ _ _
        have HZ := Aside0.mk hsz2
        clear hit2 hbw2 hit hsz2
        have G3 := Aside0.mk g3
        clear g3
        go_wp2_with (go_at_call 51; refine (ia_far chars _ _ hc8 (by omega) (by omega) HA.out).mono ?_; rintro e w2 ⟨rfl, hb2⟩)
        have hb3 : w2.heap[w.heap.size]? = some (.stringIter s (i + (Utf8.decode s i).2)) := (hb2.block _ (by rw [HZ.out]; exact hsz)).trans HI.out
        have hb4 : Below w.heap.size w w2 := below_then HB2.out (by rw [HZ.out]; omega) hb2
        clear hb2
        have H3 := Aside0.mk hb3
        have H4 := Aside0.mk hb4
        clear hb3 hb4
        go_wp2
        go_roundg (gk - 1)
        case measure => omega
        case rel =>
          refine ⟨i + (Utf8.decode s i).2, by omega, by omega, H3.out, H4.out, fun j b hj hb => ?_⟩
          by_cases hji : j < i
          · exact HN.out j b hji hb
          · have h1 := G3.out j b (by omega) hj hb
            cases hc : chars.data.toList.contains b
            · rfl
            · have hm : b ∈ chars.data.toList := by simpa using hc
              obtain ⟨j', hj'⟩ := List.getElem?_of_mem hm
              have := HA.out j' b hj'
              omega
    · have hnx : ∀ ty, (Instr.next (.pointer (some ⟨w.heap.size, 0, none⟩)) true ty).run Tryz.prog wr = _ := fun ty => Lib.run_next_end_at wr w.heap.size s i ty hit hi
      go_wp2
      go_ret
      have : i = s.data.toList.length := by rw [Array.length_toList]; show i = s.size; omega
      exact ⟨by rw [Lib.indexAny_none (by rw [← this]; exact HN.out)]; rfl, HB.out⟩

def strings_IndexAny.f (a0 a1 : ByteArray) : Option Int := if 2 ≤ a1.size ∧ a1.size ≤ 4294967280 ∧ a0.size ≤ 4294967280 ∧ (a1.data.toList.all fun b => decide (b.toNat < 128)) = true then some (Lib.indexAny a0.data.toList a1.data.toList) else none

theorem strings_IndexAny.calls (a0 a1 : ByteArray) (r : Int) (w : World) (h : strings_IndexAny.f a0 a1 = some r) :
    Calls Tryz.prog 33 #[.string a0, .string a1] w fun e w' => e = .returned (.int .i64 r) ∧ Below w.heap.size w w' := by
  unfold strings_IndexAny.f at h
  split at h
  · rename_i hc
    obtain ⟨h1, h2, h3, h4⟩ := hc
    obtain rfl := Option.some.inj h
    have ha := ascii_of_all h4
    by_cases h8 : a0.size ≤ 8
    · exact ia_short a0 a1 w h1 h8 h2 ha
    · refine (Any.strings_IndexAny_long Tryz.lays153 (fun w => by kernel_rfl) (by kernel_rfl) a0 a1 w h1 (by omega) (by omega) (by omega) ha).mono ?_
      rintro e w' ⟨rfl, rfl⟩
      exact ⟨rfl, ((Below.refl _ w).alloc (Nat.le_refl _) _).alloc (by simp) _⟩
  · cases h
end Go.Proofs.YtchdkiakdnanhaaGreatDoor.PA

namespace Go.Proofs.YtchdkiakdnanhaaGreatDoor.PA
open Go.RowKit Go.Sort Go.Proofs.YtchdkiakdnanhaaGreatDoor.Pl Go.Proofs.YtchdkiakdnanhaaGreatDoorW.PrintWords Go.Proofs.YtchdkiakdnanhaaGreatDoorW.PrintLast Go.Proofs.YtchdkiakdnanhaaGreatDoorW.PrintMore
set_option linter.unusedVariables false

theorem ia_tw (cs : List UInt8) : ∀ l : List UInt8, (0 ≤ Lib.indexAny l cs → Lib.indexAny l cs = ((l.takeWhile fun x => !cs.contains x).length : Int)) ∧ (Lib.indexAny l cs < 0 → (l.takeWhile fun x => !cs.contains x).length = l.length)
  | [] => by simp [Lib.indexAny]
  | x :: t => by
    obtain ⟨h1, h2⟩ := ia_tw cs t
    have hge := Lib.indexAny_ge cs t
    rw [Lib.indexAny, List.takeWhile_cons]
    by_cases hx : cs.contains x = true
    · rw [if_pos hx, if_neg (by rw [hx]; decide)]
      exact ⟨fun _ => rfl, fun h => absurd h (by decide)⟩
    · have hx' : (!cs.contains x) = true := by simpa using hx
      rw [if_neg hx, if_pos hx']
      by_cases hm : Lib.indexAny t cs = -1
      · rw [if_pos (by rw [hm]; rfl)]
        refine ⟨fun h => absurd h (by decide), fun _ => ?_⟩
        rw [List.length_cons, List.length_cons, h2 (by omega)]
      · rw [if_neg (by rw [beq_iff_eq]; exact hm)]
        refine ⟨fun h => ?_, fun h => absurd h (by omega)⟩
        rw [List.length_cons, h1 (by omega)]
        omega
set_option maxHeartbeats 2000000 in
set_option maxRecDepth 100000 in
theorem filtered_calls (s : List UInt8) (hs : s.length ≤ 4294967296) (w : World) :
    Calls Tryz.prog 34 #[.string (B s)] w fun e w' => e = .returned (.bool (bads.contains (lwr s))) ∧ Below w.heap.size w w' := by
  have HL := Aside0.mk (low_calls s hs w)
  obtain ⟨t, ht⟩ : ∃ t, lwr s = t := ⟨_, rfl⟩
  rw [ht] at HL ⊢
  clear ht hs
  go_enter Tryz.func34, Tryz.ntmps34
  go_wp2_with fail
  refine HL.out.mono ?_
  rintro e w1 ⟨rfl, hb⟩
  have HB := Aside0.mk hb
  clear hb HL
  go_wp2
  all_goals
    simp only [B_toList] at *
    first
    | (exfalso; simp_all; done)
    | (go_ret; refine ⟨?_, HB.out⟩; simp only [bads, List.contains_cons, List.contains_nil, *]; rfl)
theorem isW_eq (x : UInt8) : isW x = ([32, 9, 10, 47, 62] : List UInt8).contains x := by
  unfold isW
  simp [List.contains_cons, Bool.or_assoc]
theorem tw_take {p : UInt8 → Bool} : ∀ l : List UInt8, l.takeWhile p = l.take (l.takeWhile p).length
  | [] => rfl
  | x :: r => by
    rw [List.takeWhile_cons]
    split
    · rw [List.length_cons, List.take_succ_cons, ← tw_take r]
    · rfl
set_option maxHeartbeats 2000000 in
set_option maxRecDepth 100000 in
theorem bad_calls (s : List UInt8) (hs : s.length ≤ 4294967200) (w : World) :
    Calls Tryz.prog 21 #[.string (B s)] w fun e w' => e = .returned (.bool (Pl.bad s)) ∧ Below w.heap.size w w' := by
  obtain ⟨u, hu⟩ : ∃ u, (if s.head? = some 47 then s.tail else s) = u := ⟨_, rfl⟩
  have hul : u.length ≤ s.length := by
    rw [← hu]
    split
    · rw [List.length_tail]; omega
    · exact Nat.le_refl _
  have htp : Lib.trimPrefix s [47] = u := by
    rw [← hu]
    unfold Lib.trimPrefix Lib.hasPrefix
    cases s with
    | nil => rfl
    | cons x r => by_cases h : x = 47 <;> simp [List.isPrefixOf, h]; intro h2; exact absurd h2.symm h
  have hT := Tryz.strings_TrimPrefix (B s) (B [47]) w
  rw [B_data, B_data, htp] at hT
  have hbad : Pl.bad s = bads.contains (lwr (u.takeWhile fun x => !isW x)) := by unfold Pl.bad; rw [hu]
  have hfun : (fun x => !isW x) = fun x => !([32, 9, 10, 47, 62] : List UInt8).contains x := by funext x; rw [isW_eq]
  rw [hfun] at hbad
  obtain ⟨i1, i2⟩ := ia_tw [32, 9, 10, 47, 62] u
  have hI := fun W => strings_IndexAny.calls (B u) (B [32, 9, 10, 47, 62]) (Lib.indexAny u [32, 9, 10, 47, 62]) W (by unfold strings_IndexAny.f; rw [if_pos ⟨by decide, by decide, by rw [B_size]; omega, by decide⟩, B_data, B_data])
  obtain ⟨r, hr⟩ : ∃ r, Lib.indexAny u [32, 9, 10, 47, 62] = r := ⟨_, rfl⟩
  obtain ⟨v, hv⟩ : ∃ v, (u.takeWhile fun x => !([32, 9, 10, 47, 62] : List UInt8).contains x) = v := ⟨_, rfl⟩
  have hvt : v = u.take v.length := by rw [← hv]; exact tw_take u
  have hvl : v.length ≤ u.length := by rw [← hv]; exact (List.takeWhile_sublist _).length_le
  rw [hr, hv] at i1 i2
  rw [hr] at hI
  rw [hv] at hbad
  have HT := Aside0.mk hT
  have HI := Aside0.mk hI
  obtain ⟨z, hz⟩ : ∃ z, bads.contains (lwr v) = z := ⟨_, rfl⟩
  have hfl := fun W => filtered_calls v (by omega) W
  rw [hz] at hbad
  simp only [hz] at hfl
  have HF := Aside0.mk hfl
  have HVT := Aside0.mk hvt
  have HBD := Aside0.mk hbad
  clear hT hI hvt hbad htp hu hfun hr hv hfl hz
  have hul2 : (B u).size = u.length := B_size u
  go_enter Tryz.func21, Tryz.ntmps21
  go_wp2_with fail
  refine HT.out.mono ?_
  rintro e w1 ⟨rfl, rfl⟩
  go_wp2_with fail
  refine (HI.out w1).mono ?_
  rintro e w2 ⟨rfl, hb2⟩
  have HB2 := Aside0.mk hb2
  clear hb2 HI HT
  by_cases hr0 : r < 0
  · have q : decide (r < 0) = true := decide_eq_true hr0
    have hvu := i2 hr0
    have e3 : (B u).extract 0 u.length = B v := by rw [B_to, ← hvu, ← HVT.out]
    go_wp2_with fail
    rw [show (⟨u.toArray⟩ : ByteArray).extract 0 u.length = B v from e3]
    refine (HF.out w2).mono ?_
    rintro e w3 ⟨rfl, hb3⟩
    have HB3 := Aside0.mk (below_step HB2.out hb3)
    clear hb3 e3
    go_wp2
    go_ret
    exact ⟨by rw [HBD.out]; rfl, HB3.out⟩
  · have q : decide (r < 0) = false := decide_eq_false hr0
    have hrv := i1 (by omega)
    subst hrv
    have p0 := eq_true (show 0 ≤ (v.length : Int) from by omega)
    have p1 := eq_true (show (v.length : Int) ≤ (u.length : Int) from by omega)
    have e3 : (B u).extract 0 v.length = B v := by rw [B_to, ← HVT.out]
    go_wp2_with fail
    rw [show (⟨u.toArray⟩ : ByteArray).extract 0 v.length = B v from e3]
    refine (HF.out w2).mono ?_
    rintro e w3 ⟨rfl, hb3⟩
    have HB3 := Aside0.mk (below_step HB2.out hb3)
    clear hb3 e3
    go_wp2
    go_ret
    exact ⟨by rw [HBD.out]; rfl, HB3.out⟩
theorem isB_below {T e B b : Nat} {bs : List Value} {w w' : World} (h : Lib.IsBuilder T e B b bs w) (hb : Below w.heap.size w w') : Lib.IsBuilder T e B b bs w' := by
  have go : ∀ p, Lib.BuilderAt T e B b p bs w → Lib.BuilderAt T e B b p bs w' := by
    intro p h
    have hlt := h.lt
    obtain ⟨h1, v, h2, h3, h4⟩ := h
    exact ⟨h1, v, (hb.block _ hlt).trans h2, pw_own_below h3 hb, h4⟩
  rcases h with h | h
  · exact .inl (go _ h)
  · exact .inr (go _ h)
theorem cut60 (l : List UInt8) : (∃ a t, l = a ++ 60 :: t ∧ (60 : UInt8) ∉ a ∧ Lib.cut l [60] = (a, t, true)) ∨ ((60 : UInt8) ∉ l ∧ Lib.cut l [60] = (l, [], false)) := by
  unfold Lib.cut
  rw [Lib.index_one]
  have hge := Lib.indexByte_ge l 60
  by_cases h : Lib.indexByte l 60 = -1
  · right
    have hn := Lib.indexByte_none h
    refine ⟨fun hm => ?_, by rw [if_neg (by omega)]⟩
    obtain ⟨k, hk⟩ := List.getElem?_of_mem hm
    exact hn k hk
  · left
    obtain ⟨o, ho⟩ : ∃ o : Nat, Lib.indexByte l 60 = (o : Int) := ⟨(Lib.indexByte l 60).toNat, by omega⟩
    obtain ⟨h1, h2⟩ := Lib.indexByte_some ho
    obtain ⟨hlt, h3⟩ := List.getElem?_eq_some_iff.1 h1
    refine ⟨l.take o, l.drop (o + 1), ?_, fun hm => ?_, ?_⟩
    · rw [← h3, ← List.drop_eq_getElem_cons hlt, List.take_append_drop]
    · obtain ⟨k, hk⟩ := List.getElem?_of_mem hm
      rw [List.getElem?_take] at hk
      split at hk
      · rename_i hko
        exact h2 k hko hk
      · cases hk
    · rw [if_pos (by omega), ho]
      rfl
theorem flt_no : ∀ (a t : List UInt8), (60 : UInt8) ∉ a → flt (a ++ t) = a ++ flt t
  | [], t, _ => rfl
  | x :: a, t, h => by
    have hx : x ≠ 60 := fun e => h (by rw [e]; exact List.mem_cons_self)
    rw [List.cons_append, flt, if_neg (fun e => hx e.1), flt_no a t (fun hm => h (List.mem_cons_of_mem _ hm))]
    rfl
theorem flt_all (a : List UInt8) (h : (60 : UInt8) ∉ a) : flt a = a := by
  have := flt_no a [] h
  rw [List.append_nil] at this
  rw [this, flt, List.append_nil]
set_option maxHeartbeats 4000000 in
set_option maxRecDepth 100000 in
theorem filter_calls (s : List UInt8) (hs : s.length ≤ 268435456) (w : World) (hLd : LaidW w) :
    Calls Tryz.prog 8 #[.string (B s)] w fun e w' => e = .returned (.string (B (flt s))) ∧ Below w.heap.size w w' := by
  have HL := Aside0.mk hLd
  clear hLd
  go_enter Tryz.func8, Tryz.ntmps8
  go_wp2
  go_loopw [0, 4, 5, 6] (fun v0 v4 v5 v6 wr => ∃ l acc : List UInt8, v0 = .string (B l) ∧ l.length ≤ s.length ∧ Aside0 (acc.length + 4 * l.length ≤ 4 * s.length) ∧ Aside0 (acc ++ flt l = flt s) ∧ Aside0 (Lib.IsBuilder 38 5 w.heap.size w.heap.size (Lib.byteCells acc) wr) ∧ Aside0 (Below w.heap.size w wr)) (fun v0 _ _ _ _ => match v0 with | .string x => x.size | _ => 0)
  case atStart => exact ⟨s, [], rfl, Nat.le_refl _, ⟨by simp⟩, ⟨rfl⟩, ⟨Lib.fresh_isBuilder _ _ w⟩, ⟨(Below.refl _ w).alloc (Nat.le_refl _) _⟩⟩
  case round =>
    obtain ⟨l, acc, rfl, hl, HS, HE, HI, HB⟩ := hrel
    have hbs := HB.out.size
    obtain ⟨mx, hmx⟩ := (HL.out.mx.go HB.out).ml
    have HCUT := Aside0.mk (Tryz.strings_Cut (B l) (B [60]) mx wr (by rw [B_size]; omega) hmx)
    rw [B_data, B_data] at HCUT
    clear hmx
    rcases cut60 l with ⟨a, t, rfl, ha, hc⟩ | ⟨hn, hc⟩
    · rw [hc] at HCUT
      have HA := Aside0.mk ha
      rw [List.length_append, List.length_cons] at HS hl
      clear hc ha
      go_wp2_with fail
      refine HCUT.out.mono ?_
      rintro e w1 ⟨rfl, ⟨n, rfl⟩⟩
      have HI1 := Aside0.mk (show Lib.IsBuilder 38 5 w.heap.size w.heap.size (Lib.byteCells acc) (wr.drewN n) from isB_below HI.out ⟨rfl, rfl, rfl, Nat.le_refl _, fun _ _ => rfl⟩)
      have HB1 := Aside0.mk (show Below w.heap.size w (wr.drewN n) from HB.out.trans ⟨rfl, rfl, rfl, Nat.le_refl _, fun _ _ => rfl⟩)
      clear HCUT HI HB
      obtain ⟨w1, hw1⟩ : ∃ w1, wr.drewN n = w1 := ⟨_, rfl⟩
      rw [hw1] at HI1 HB1 ⊢
      clear hw1
      have hbs1 := HB1.out.size
      have HW1 := Aside0.mk (Tryz.Builder_WriteString w.heap.size w.heap.size _ (B a) w1 HI1.out (by rw [Lib.byteCells_length, B_size]; have := HS.out; omega) hbs1)
      go_wp2_with fail
      refine HW1.out.mono ?_
      rintro e w2 ⟨rfl, h2, b2⟩
      have HI2 := Aside0.mk (show Lib.IsBuilder 38 5 w.heap.size w.heap.size (Lib.byteCells (acc ++ a)) w2 from by rw [Lib.byteCells_append]; rw [Lib.strCells_eq, B_data] at h2; exact .inr h2)
      have HB2 := Aside0.mk (HB1.out.trans b2)
      have hbs2 := HB2.out.size
      clear h2 b2 HW1 HI1 HB1 hbs1
      have HBAD := Aside0.mk (bad_calls t (by omega) w2)
      go_wp2_with fail
      refine HBAD.out.mono ?_
      rintro e w3 ⟨rfl, b3⟩
      have HI3 := Aside0.mk (isB_below HI2.out b3)
      have HB3 := Aside0.mk (below_step HB2.out b3)
      have hbs3 := HB3.out.size
      clear HBAD b3 HI2 HB2 hbs2
      cases hbd : Pl.bad t with
      | true =>
        have HE3 := Aside0.mk (show (acc ++ a ++ [38, 108, 116, 59]) ++ flt t = flt s from by
          rw [← HE.out, flt_no a _ HA.out, flt, if_pos ⟨rfl, hbd⟩]
          simp only [List.append_assoc])
        have HW := Aside0.mk (Tryz.Builder_WriteString w.heap.size w.heap.size _ (B [38, 108, 116, 59]) w3 HI3.out (by rw [Lib.byteCells_length, B_size, List.length_append]; have := HS.out; simp only [List.length_cons, List.length_nil]; omega) hbs3)
        go_wp2_with fail
        refine HW.out.mono ?_
        rintro e w4 ⟨rfl, h4, b4⟩
        have HI4 := Aside0.mk (show Lib.IsBuilder 38 5 w.heap.size w.heap.size (Lib.byteCells (acc ++ a ++ [38, 108, 116, 59])) w4 from by rw [Lib.byteCells_append (acc ++ a)]; rw [Lib.strCells_eq, B_data] at h4; exact .inr h4)
        have HB4 := Aside0.mk (HB3.out.trans b4)
        clear h4 b4 HW HI3 HB3 hbd
        go_wp2
        go_roundw
        case rel => exact ⟨t, _, rfl, by omega, ⟨by have := HS.out; simp only [List.length_append, List.length_cons, List.length_nil]; omega⟩, HE3, HI4, HB4⟩
        case measure =>
          change (B t).size < (B (a ++ 60 :: t)).size
          rw [B_size, B_size, List.length_append, List.length_cons]
          omega
      | false =>
        have HE3 := Aside0.mk (show (acc ++ a ++ [60]) ++ flt t = flt s from by
          rw [← HE.out, flt_no a _ HA.out, flt, if_neg (fun e => by rw [hbd] at e; cases e.2)]
          simp only [List.append_assoc])
        have HW := Aside0.mk (Tryz.Builder_WriteByte w.heap.size w.heap.size _ 60 w3 HI3.out (by rw [Lib.byteCells_length, List.length_append]; have := HS.out; omega) hbs3)
        go_wp2_with fail
        refine HW.out.mono ?_
        rintro e w4 ⟨rfl, h4, b4⟩
        have HI4 := Aside0.mk (show Lib.IsBuilder 38 5 w.heap.size w.heap.size (Lib.byteCells (acc ++ a ++ [60])) w4 from by rw [Lib.byteCells_append (acc ++ a)]; exact .inr h4)
        have HB4 := Aside0.mk (HB3.out.trans b4)
        clear h4 b4 HW HI3 HB3 hbd
        go_wp2
        go_roundw
        case rel => exact ⟨t, _, rfl, by omega, ⟨by have := HS.out; simp only [List.length_append, List.length_cons, List.length_nil]; omega⟩, HE3, HI4, HB4⟩
        case measure =>
          change (B t).size < (B (a ++ 60 :: t)).size
          rw [B_size, B_size, List.length_append, List.length_cons]
          omega
    · rw [hc] at HCUT
      have HE3 := Aside0.mk (show acc ++ l = flt s from by rw [← HE.out, flt_all l hn])
      clear hc hn
      go_wp2_with fail
      refine HCUT.out.mono ?_
      rintro e w1 ⟨rfl, ⟨n, rfl⟩⟩
      have HI1 := Aside0.mk (show Lib.IsBuilder 38 5 w.heap.size w.heap.size (Lib.byteCells acc) (wr.drewN n) from isB_below HI.out ⟨rfl, rfl, rfl, Nat.le_refl _, fun _ _ => rfl⟩)
      have HB1 := Aside0.mk (show Below w.heap.size w (wr.drewN n) from HB.out.trans ⟨rfl, rfl, rfl, Nat.le_refl _, fun _ _ => rfl⟩)
      clear HCUT HI HB
      obtain ⟨w1, hw1⟩ : ∃ w1, wr.drewN n = w1 := ⟨_, rfl⟩
      rw [hw1] at HI1 HB1 ⊢
      clear hw1
      have hbs1 := HB1.out.size
      have HW1 := Aside0.mk (Tryz.Builder_WriteString w.heap.size w.heap.size _ (B l) w1 HI1.out (by rw [Lib.byteCells_length, B_size]; have := HS.out; omega) hbs1)
      go_wp2_with fail
      refine HW1.out.mono ?_
      rintro e w2 ⟨rfl, h2, b2⟩
      have HI2 := Aside0.mk (show Lib.IsBuilder 38 5 w.heap.size w.heap.size (Lib.byteCells (flt s)) w2 from by rw [← HE3.out, Lib.byteCells_append]; rw [Lib.strCells_eq, B_data] at h2; exact .inr h2)
      have HB2 := Aside0.mk (HB1.out.trans b2)
      have hbs2 := HB2.out.size
      have HO := Aside0.mk (Tryz.Builder_String_any w.heap.size w.heap.size (flt s) w2 HI2.out hbs2)
      clear h2 b2 HW1 HI1 HB1 hbs1
      go_wp2_with fail
      refine HO.out.mono ?_
      rintro e w3 ⟨rfl, b3⟩
      have HB3 := Aside0.mk (HB2.out.trans b3)
      clear b3
      go_wp2
      repeat (first | refine ex_noGoto_ret ?_ | refine ex_block_ret ?_ | refine ex_then_ret ?_)
      go_ret
      exact ⟨rfl, HB3.out⟩
end Go.Proofs.YtchdkiakdnanhaaGreatDoor.PA

namespace Go.Proofs.YtchdkiakdnanhaaGreatDoor.PA
open Go.RowKit
set_option linter.unusedVariables false

/-- An append whose run is known. -/
theorem met_append {P : Program} {w : World} {ops : Array Oper} {rest : List Oper} {o : Oper} {a : Act} {Q : Exit → Act → World → Prop} {x y : Operand} {t : TypeId} {w' : World} {u v v' : Value}
    (hr : (Builtin.append_ #[t, t] o.type #[u, v]).run P w = .ok v' w') (hgd : o.guard = none) (ho : o.op = .call { callee := .builtin .append, args := #[x, y], argTypes := #[t, t] }) (hx : a.eval x = u) (hy : a.eval y = v)
    (h : wpList P ops Q rest (a.put o.dst v') w') : wpList P ops Q (o :: rest) a w := by
  refine wpList_plain hgd fun K hK => ?_
  unfold Oper.wp execOp
  simp only [ho, resolve, invoke, builtin, Sem.run_bind, Sem.run_pure, Result.andThen_ok, List.map_toArray, List.map_cons, List.map_nil, hx, hy, hr]
  exact hK _ _ h
/-- A copy whose run is known. -/
theorem met_copy {P : Program} {w : World} {ops : Array Oper} {rest : List Oper} {o : Oper} {a : Act} {Q : Exit → Act → World → Prop} {x y : Operand} {t t2 : TypeId} {w' : World} {u v v' : Value}
    (hr : (Builtin.copy_ #[t, t2] o.type #[u, v]).run P w = .ok v' w') (hgd : o.guard = none) (ho : o.op = .call { callee := .builtin .copy, args := #[x, y], argTypes := #[t, t2] }) (hx : a.eval x = u) (hy : a.eval y = v)
    (h : wpList P ops Q rest (a.put o.dst v') w') : wpList P ops Q (o :: rest) a w := by
  refine wpList_plain hgd fun K hK => ?_
  unfold Oper.wp execOp
  simp only [ho, resolve, invoke, builtin, Sem.run_bind, Sem.run_pure, Result.andThen_ok, List.map_toArray, List.map_cons, List.map_nil, hx, hy, hr]
  exact hK _ _ h
theorem hid0 {p : Prop} (h : p) : Hid p := h
/-- The eight texts. -/
def pats : List ByteArray := [⟨#[38]⟩, ⟨#[38, 97, 109, 112, 59]⟩, ⟨#[60]⟩, ⟨#[38, 108, 116, 59]⟩, ⟨#[62]⟩, ⟨#[38, 103, 116, 59]⟩, ⟨#[34]⟩, ⟨#[38, 113, 117, 111, 116, 59]⟩]
/-- Eight texts lie in a row. -/
def PatsAt (g : Nat) (w : World) : Prop := g < w.heap.size ∧ ∀ j, j < 8 → w.cell? ⟨g, j, none⟩ = some (.string (pats.getD j ByteArray.empty))
/-- A replacer's record, not yet built. -/
structure RepNew (B b : Nat) (w : World) : Prop where
  lo : B ≤ b
  lt : b < w.heap.size
  c0 : w.cell? ⟨b, 0, none⟩ = some (.int .u32 0)
  c1 : w.cell? ⟨b, 1, none⟩ = some (.int .i32 0)
  c2 : w.cell? ⟨b, 2, none⟩ = some (.int .u32 0)
  c3 : w.cell? ⟨b, 3, none⟩ = some .nilIface
  c4 : ∃ g c, w.cell? ⟨b, 4, none⟩ = some (.slice (some ⟨g, 0, none⟩) 8 c) ∧ 8 ≤ c ∧ PatsAt g w ∧ g ≠ b ∧ B ≤ g
  fz : ∀ j, w.frozen? ⟨b, j, none⟩ = false
set_option maxHeartbeats 2000000 in
set_option maxRecDepth 100000 in
theorem newRep (g : Nat) (w : World) (hg : PatsAt g w) : Calls Tryz.prog 56 #[.slice (some ⟨g, 0, none⟩) 8 8] w fun e w' => ∃ b, e = .returned (.pointer (some ⟨b, 0, none⟩)) ∧ RepNew w.heap.size b w' ∧ Below w.heap.size w w' := by
  have hadd : ∀ j, (⟨g, 0, none⟩ : Addr).add j = ⟨g, j, none⟩ := by
    intro j
    unfold Addr.add
    split
    · rename_i e; subst e; rfl
    · simp
  obtain ⟨i0, hi, hz0, hz1, hz2⟩ := info_parts (show (Tryz.prog.info? 9).map (fun i => (i.zero, i.size, i.bytes)) = some (some (.string ByteArray.empty), 1, 16) by kernel_rfl)
  have hx := fun W (hW : ∀ j, j < 8 → World.cell? W ⟨g, j, none⟩ = some (.string (pats.getD j ByteArray.empty))) ty => run_append_nil (P := Tryz.prog) (w := W) 25 ty 9 i0 (.string ByteArray.empty) Tryz.underlying25 hi hz0 ⟨g, 0, none⟩ 8 8 (pats.map Value.string) (by rw [hz1]; rfl) (by
    intro j v hv
    rw [hadd]
    have hj : j < 8 := (List.getElem?_eq_some_iff.1 hv).1
    rw [hW j hj, ← hv, List.getElem?_map, List.getD_eq_getElem?_getD, List.getElem?_eq_getElem (show j < pats.length from hj)]
    rfl) (by decide) (by decide) (by rw [hz2]; decide)
  have hap := hx w hg.2
  clear hx
  obtain ⟨C, hC⟩ : ∃ C, grownCap w 8 0 9 = C := ⟨_, rfl⟩
  have hC8 : 8 ≤ C := by rw [← hC]; exact grownCap_ge w 8 0 9
  rw [hC] at hap
  have HG := hid0 hg
  clear hg hC hadd hi hz0 hz1 hz2
  go_enter Tryz.func56, Tryz.ntmps56
  go_wp2_with (refine met_append (hap _) rfl rfl rfl rfl ?_)
  go_ret
  have hz : ∀ j, j < 8 → ((List.map Value.string pats).toArray ++ Builtin.zeroCells #[Value.string ByteArray.empty] (C - 8))[j]? = some (.string (pats.getD j ByteArray.empty)) := by
    intro j hj
    rw [Array.getElem?_append_left (by simp [pats]; exact hj), List.getElem?_toArray, List.getElem?_map, List.getD_eq_getElem?_getD, List.getElem?_eq_getElem (show j < pats.length from hj)]
    rfl
  generalize (List.map Value.string pats).toArray ++ Builtin.zeroCells #[Value.string ByteArray.empty] (C - 8) = cs at hz ⊢
  refine ⟨w.heap.size + 1, rfl, { lo := Nat.le_succ _, lt := by simp, c0 := by simp, c1 := by simp, c2 := by simp, c3 := by simp, c4 := ⟨w.heap.size, C, by simp, hC8, ⟨by simp; omega, fun j hj => ?_⟩, by omega, Nat.le_refl _⟩, fz := fun j => by simp }, ((Below.refl _ w).alloc (Nat.le_refl _) _).alloc (by simp) _ |>.drew⟩
  rw [← hz j hj, World.cell?_drew, World.cell?_alloc_past _ _ _ (by simp)]
  simp
end Go.Proofs.YtchdkiakdnanhaaGreatDoor.PA

namespace Go.Proofs.YtchdkiakdnanhaaGreatDoor.PA
open Go.RowKit
set_option linter.unusedVariables false

/-- The four signs, and what stands for each, in the order in which they are laid. -/
def sgs : List UInt8 := [34, 62, 60, 38]
def rps : List (List UInt8) := [[38, 113, 117, 111, 116, 59], [38, 103, 116, 59], [38, 108, 116, 59], [38, 97, 109, 112, 59]]
/-- A row of bytes that stand for a sign. -/
def Rep1 (B c t : Nat) (v : Value) (l : List UInt8) (w : World) : Prop :=
  ∃ gx cap, v = .slice (some ⟨gx, 0, none⟩) l.length cap ∧ l.length ≤ cap ∧ B ≤ gx ∧ gx < w.heap.size ∧ gx ≠ c ∧ gx ≠ t ∧ ∀ j, j < l.length → w.cell? ⟨gx, j, none⟩ = some (.int .u8 (l.getD j 0).toNat)
/-- The record, k signs laid. -/
structure Bld (B c t k : Nat) (w : World) : Prop where
  lc : B ≤ c
  lt : B ≤ t
  ct : c ≠ t
  hc : c < w.heap.size
  ht : t < w.heap.size
  row : ∃ tc : Array Value, w.heap[t]? = some (.cells tc 9 (0, 0)) ∧ tc.size = 4 ∧ ∀ j, j < k → tc[j]? = some (.string ⟨#[sgs.getD j 0]⟩)
  ary : ∃ cc : Array Value, w.heap[c]? = some (.cells cc 128 (0, 0)) ∧ cc.size = 257 ∧ cc[256]? = some (.slice (some ⟨t, 0, none⟩) k 4) ∧
    (∀ j, j < k → ∃ v, cc[(sgs.getD j 0).toNat]? = some v ∧ Rep1 B c t v (rps.getD j []) w) ∧ ∀ x, x < 256 → (∀ j, j < k → (sgs.getD j 0).toNat ≠ x) → cc[x]? = some (.slice none 0 0)
theorem built96 (t : Nat) : (Tryz.prog.built 128 [(1, .slice (some ⟨t, 0, none⟩) 0 4)]) = some (Tryz.zeroCells128.setIfInBounds 256 (.slice (some ⟨t, 0, none⟩) 0 4)) := by kernel_rfl
theorem zero96 : Tryz.zeroCells128.size = 257 := by kernel_rfl
theorem zero96_eq : Tryz.zeroCells128 = Array.replicate 257 (.slice none 0 0) := by kernel_rfl
theorem info96 : (Tryz.prog.info? 128).map (·.size) = some 257 := by kernel_rfl
/-- A build whose cells are known. -/
theorem met_build {P : Program} {w : World} {ops : Array Oper} {rest : List Oper} {o : Oper} {a : Act} {Q : Exit → Act → World → Prop} {t : TypeId} {parts : Array (Nat × Operand)} {l : List (Nat × Value)} {v : Array Value}
    (hb : P.built t l = some v) (hg : o.guard = none) (ho : o.op = .build t parts) (hl : (parts.map fun (i, x) => (i, a.eval x)).toList = l) (h : wpList P ops Q rest (a.put o.dst (.agg v)) w) : wpList P ops Q (o :: rest) a w :=
  wpList_build hg t parts ho (by rw [hl, hb]; rfl) (by rw [hl, hb]; exact h)
theorem rec_one (t : Nat) : (Tryz.zeroCells128.setIfInBounds 256 (.slice (some ⟨t, 0, none⟩) 0 4)).all (·.oneCell') = true := by
  rw [zero96_eq]
  kernel_rfl
theorem heap96 (w : World) (mc : Array Value) : ((w.alloc (.cells mc 9)).alloc (.cells Tryz.zeroCells128 128)).heap[w.heap.size + 1]? = some (.cells Tryz.zeroCells128 128 (0, 0)) := by
  have h := heap_alloc_new (w.alloc (.cells mc 9)) (.cells Tryz.zeroCells128 128)
  rw [World.size_alloc] at h
  exact h
theorem size96 (t : Nat) : (Tryz.zeroCells128.setIfInBounds 256 (.slice (some ⟨t, 0, none⟩) 0 4)).size = 257 := by rw [Array.size_setIfInBounds, zero96]
theorem met_store96 {w : World} {ops : Array Oper} {rest : List Oper} {o : Oper} {a : Act} {Q : Exit → Act → World → Prop} {mc : Array Value} {x y : Operand} {t : Nat}
    (hgd : o.guard = none) (ho : o.op = .store 128 x y) (hx : a.eval x = .pointer (some ⟨w.heap.size + 1, 0, none⟩)) (hy : a.eval y = .agg (Tryz.zeroCells128.setIfInBounds 256 (.slice (some ⟨t, 0, none⟩) 0 4)))
    (h : wpList Tryz.prog ops Q rest (a.put o.dst undef) (((w.alloc (.cells mc 9)).alloc (.cells Tryz.zeroCells128 128)).setRow (w.heap.size + 1) (Tryz.zeroCells128.setIfInBounds 256 (.slice (some ⟨t, 0, none⟩) 0 4)))) :
    wpList Tryz.prog ops Q (o :: rest) a ((w.alloc (.cells mc 9)).alloc (.cells Tryz.zeroCells128 128)) :=
  wpList_store_row hgd _ x y ho (w.heap.size + 1) _ hx hy 128 Tryz.zeroCells128 (heap96 w mc) (info96.trans (congrArg some (size96 t).symm)) (zero96.trans (size96 t).symm) (rec_one t) h
theorem eql_nil (a : Option Addr) (l c : Nat) (W : World) : (binOp .eql 36 (.slice a l c) (.slice none 0 0)).run Tryz.prog W = .ok (.bool a.isNone) W := by
  simp only [binOp]
  simp [run_equal_slice_nil W 36 5 a l c Tryz.underlying36]
/-- Behind the append: the sign's text lies in the row of signs. -/
def wA (wr : World) (t k : Nat) (tc : Array Value) (x : Int) (S : ByteArray) : World :=
  ((wr.alloc (.cells #[.int .u8 x] 5)).alloc (.cells #[.string S] 9)).setRow t (tc.toList.take k ++ [Value.string S] ++ tc.toList.drop (k + 1)).toArray
def wB (wr : World) (t k : Nat) (tc : Array Value) (x : Int) (S : ByteArray) (c : Nat) : World := (wA wr t k tc x S).setCell ⟨c, 256, none⟩ (.slice (some ⟨t, 0, none⟩) (k + 1) 4)
def wC (wr : World) (t k : Nat) (tc : Array Value) (x : Int) (S : ByteArray) (c : Nat) (R : ByteArray) : World := Lib.bytesWorld (wB wr t k tc x S c) 5 R
section
variable {wr : World} {t k c : Nat} {tc cc : Array Value} {x : Int} {S R : ByteArray}
theorem wA_size : (wA wr t k tc x S).heap.size = wr.heap.size + 2 := by simp [wA]
theorem wA_old {j : Nat} (h : j < wr.heap.size) (hj : j ≠ t) : (wA wr t k tc x S).heap[j]? = wr.heap[j]? := by
  unfold wA
  rw [setRow_other _ _ _ _ hj, Below.heap_alloc _ _ _ (by simp; omega), Below.heap_alloc _ _ _ h]
theorem wA_row (ht : wr.heap[t]? = some (.cells tc 9 (0, 0))) : (wA wr t k tc x S).heap[t]? = some (.cells (tc.toList.take k ++ [Value.string S] ++ tc.toList.drop (k + 1)).toArray 9 (0, 0)) := by
  have hl : t < wr.heap.size := (Array.getElem?_eq_some_iff.1 ht).1
  refine setRow_heap _ t tc _ _ _ ?_
  rw [Below.heap_alloc _ _ _ (by simp; omega), Below.heap_alloc _ _ _ hl]
  exact ht
theorem wB_size : (wB wr t k tc x S c).heap.size = wr.heap.size + 2 := by unfold wB; rw [World.size_setCell, wA_size]
theorem wB_old {j : Nat} (h : j < wr.heap.size) (hj : j ≠ t) (hc : j ≠ c) : (wB wr t k tc x S c).heap[j]? = wr.heap[j]? := by
  unfold wB
  rw [Below.heap_setCell _ _ _ _ hc, wA_old h hj]
theorem wB_row (ht : wr.heap[t]? = some (.cells tc 9 (0, 0))) (htc : t ≠ c) : (wB wr t k tc x S c).heap[t]? = some (.cells (tc.toList.take k ++ [Value.string S] ++ tc.toList.drop (k + 1)).toArray 9 (0, 0)) := by
  unfold wB
  rw [Below.heap_setCell _ _ _ _ htc, wA_row ht]
theorem wB_rec (hc : wr.heap[c]? = some (.cells cc 128 (0, 0))) (htc : c ≠ t) : (wB wr t k tc x S c).heap[c]? = some (.cells (cc.setIfInBounds 256 (.slice (some ⟨t, 0, none⟩) (k + 1) 4)) 128 (0, 0)) := by
  have hl : c < wr.heap.size := (Array.getElem?_eq_some_iff.1 hc).1
  have h1 : (wA wr t k tc x S).heap[c]? = some (.cells cc 128 (0, 0)) := by rw [wA_old hl htc]; exact hc
  unfold wB
  rw [setCell_eq_setRow _ _ _ _ _ _ _ h1]
  exact setRow_heap _ _ _ _ _ _ h1
theorem wC_size : (wC wr t k tc x S c R).heap.size = wr.heap.size + 3 := by unfold wC; rw [Lib.bytesWorld_size, wB_size]
theorem wC_old {j : Nat} (h : j < wr.heap.size) (hj : j ≠ t) (hc : j ≠ c) : (wC wr t k tc x S c R).heap[j]? = wr.heap[j]? := by
  unfold wC
  rw [Lib.bytesWorld_at_old _ _ _ _ (by rw [wB_size]; omega), wB_old h hj hc]
theorem wC_row (ht : wr.heap[t]? = some (.cells tc 9 (0, 0))) (htc : t ≠ c) : (wC wr t k tc x S c R).heap[t]? = some (.cells (tc.toList.take k ++ [Value.string S] ++ tc.toList.drop (k + 1)).toArray 9 (0, 0)) := by
  have hl : t < wr.heap.size := (Array.getElem?_eq_some_iff.1 ht).1
  unfold wC
  rw [Lib.bytesWorld_at_old _ _ _ _ (by rw [wB_size]; omega), wB_row ht htc]
theorem wC_rec (hc : wr.heap[c]? = some (.cells cc 128 (0, 0))) (htc : c ≠ t) : (wC wr t k tc x S c R).heap[c]? = some (.cells (cc.setIfInBounds 256 (.slice (some ⟨t, 0, none⟩) (k + 1) 4)) 128 (0, 0)) := by
  have hl : c < wr.heap.size := (Array.getElem?_eq_some_iff.1 hc).1
  unfold wC
  rw [Lib.bytesWorld_at_old _ _ _ _ (by rw [wB_size]; omega), wB_rec hc htc]
theorem wA_run (ht : wr.heap[t]? = some (.cells tc 9 (0, 0))) (hs : tc.size = 4) (hk : k < 4) (ty : TypeId) :
    (Builtin.append_ #[25, 25] ty #[.slice (some ⟨t, 0, none⟩) k 4, .slice (some ⟨wr.heap.size + 1, 0, none⟩) 1 1]).run Tryz.prog ((wr.alloc (.cells #[.int .u8 x] 5)).alloc (.cells #[.string S] 9)) = .ok (.slice (some ⟨t, 0, none⟩) (k + 1) 4) (wA wr t k tc x S) := by
  obtain ⟨i0, hi, hz0, hz1, hz2⟩ := info_parts (show (Tryz.prog.info? 9).map (fun i => (i.zero, i.size, i.bytes)) = some (some (.string ByteArray.empty), 1, 16) by kernel_rfl)
  have hl : t < wr.heap.size := (Array.getElem?_eq_some_iff.1 ht).1
  have h := run_append_room (P := Tryz.prog) ((wr.alloc (.cells #[.int .u8 x] 5)).alloc (.cells #[.string S] 9)) 25 ty 9 i0 Tryz.underlying25 hi t k 4 tc (by rw [Below.heap_alloc _ _ _ (by simp; omega), Below.heap_alloc _ _ _ hl]; exact ht) ⟨wr.heap.size + 1, 0, none⟩ 1 1 [.string S] (by rw [hz1]; rfl) (by
    intro j u hu
    cases j with
    | zero =>
      obtain rfl := Option.some.inj hu
      simp [Addr.add]
    | succ j => simp at hu) (by intro u hu; rw [List.mem_singleton] at hu; subst hu; rfl) (by omega) (by rw [hz1, hs]; simp; omega)
  rw [h, hz1]
  simp [wA]
theorem bld_step {B : Nat} (hk : k < 4) (HD : Bld B c t k wr) (ht1 : wr.heap[t]? = some (.cells tc 9 (0, 0))) (ht2 : tc.size = 4) (ht3 : ∀ j, j < k → tc[j]? = some (.string ⟨#[sgs.getD j 0]⟩)) (hB : B ≤ wr.heap.size)
    (hc1 : wr.heap[c]? = some (.cells cc 128 (0, 0))) (hc2 : cc.size = 257) (hc3 : cc[256]? = some (.slice (some ⟨t, 0, none⟩) k 4))
    (hc4 : ∀ j, j < k → ∃ v, cc[(sgs.getD j 0).toNat]? = some v ∧ Rep1 B c t v (rps.getD j []) wr) (hc5 : ∀ x, x < 256 → (∀ j, j < k → (sgs.getD j 0).toNat ≠ x) → cc[x]? = some (.slice none 0 0))
    (hS : S = ⟨#[sgs.getD k 0]⟩) (hR : R = ⟨(rps.getD k []).toArray⟩) {m cap : Nat} (hm : m = (rps.getD k []).length) (hcap : m ≤ cap) {n : Nat} (hn : n = (sgs.getD k 0).toNat) :
    Bld B c t (k + 1) ((wC wr t k tc x S c R).setCell ⟨c, n, none⟩ (.slice (some ⟨wr.heap.size + 2, 0, none⟩) m cap)) := by
  subst hS hR hm hn
  have hlt : t < wr.heap.size := (Array.getElem?_eq_some_iff.1 ht1).1
  have hlc : c < wr.heap.size := (Array.getElem?_eq_some_iff.1 hc1).1
  have hct := HD.ct
  have hr := wC_rec (k := k) (tc := tc) (x := x) (S := ⟨#[sgs.getD k 0]⟩) (R := ⟨(rps.getD k []).toArray⟩) hc1 hct
  refine { lc := HD.lc, lt := HD.lt, ct := hct, hc := by rw [World.size_setCell, wC_size]; omega, ht := by rw [World.size_setCell, wC_size]; omega, row := ?_, ary := ?_ }
  · refine ⟨_, by rw [Below.heap_setCell _ _ _ _ (Ne.symm hct)]; exact wC_row ht1 (Ne.symm hct), ?_, ?_⟩
    · simp [ht2]; omega
    · intro j hj
      rw [List.getElem?_toArray]
      rcases Nat.lt_succ_iff_lt_or_eq.1 hj with h | rfl
      · rw [List.append_assoc, List.getElem?_append_left (by rw [List.length_take, Array.length_toList]; omega), List.getElem?_take, if_pos h, Array.getElem?_toList]
        exact ht3 j h
      · rw [List.append_assoc, List.getElem?_append_right (by rw [List.length_take, Array.length_toList]; omega), List.length_take, Array.length_toList, show j - min j tc.size = 0 by omega]
        rfl
  · have hn256 : (sgs.getD k 0).toNat < 256 := (sgs.getD k 0).toNat_lt
    refine ⟨_, by rw [setCell_eq_setRow _ _ _ _ _ _ _ hr]; exact setRow_heap _ _ _ _ _ _ hr, ?_, ?_, ?_, ?_⟩
    · simp [hc2]
    · rw [Array.getElem?_setIfInBounds_ne (by omega), Array.getElem?_setIfInBounds_self_of_lt (by omega)]
    · intro j hj
      have hold : ∀ v, Rep1 B c t v (rps.getD j []) wr → Rep1 B c t v (rps.getD j []) ((wC wr t k tc x ⟨#[sgs.getD k 0]⟩ c ⟨(rps.getD k []).toArray⟩).setCell ⟨c, (sgs.getD k 0).toNat, none⟩ (.slice (some ⟨wr.heap.size + 2, 0, none⟩) (rps.getD k []).length cap)) := by
        rintro v ⟨gx, cp, h1, h2, h3, h4, h5, h6, h7⟩
        refine ⟨gx, cp, h1, h2, h3, by rw [World.size_setCell, wC_size]; omega, h5, h6, fun i hi => ?_⟩
        rw [← h7 i hi]
        refine World.cell?_of_block ?_
        rw [Below.heap_setCell _ _ _ _ h5]
        exact wC_old h4 h6 h5
      rcases Nat.lt_succ_iff_lt_or_eq.1 hj with h | rfl
      · obtain ⟨v, h1, h2⟩ := hc4 j h
        have hne : (sgs.getD k 0).toNat ≠ (sgs.getD j 0).toNat := by
          have : ∀ k : Fin 4, ∀ j : Fin 4, j < k → (sgs.getD k.val 0).toNat ≠ (sgs.getD j.val 0).toNat := by decide
          exact this ⟨k, hk⟩ ⟨j, by omega⟩ h
        have h256 : (sgs.getD j 0).toNat < 256 := (sgs.getD j 0).toNat_lt
        exact ⟨v, by rw [Array.getElem?_setIfInBounds_ne hne, Array.getElem?_setIfInBounds_ne (by omega)]; exact h1, hold v h2⟩
      · refine ⟨_, by rw [Array.getElem?_setIfInBounds_self_of_lt (by rw [Array.size_setIfInBounds]; omega)], _, cap, rfl, hcap, by omega, by rw [World.size_setCell, wC_size]; omega, by omega, by omega, fun i hi => ?_⟩
        have e1 : ∀ W : World, wr.heap.size + 2 ≠ c → (W.setCell ⟨c, (sgs.getD j 0).toNat, none⟩ (.slice (some ⟨wr.heap.size + 2, 0, none⟩) (rps.getD j []).length cap)).cell? ⟨wr.heap.size + 2, i, none⟩ = W.cell? ⟨wr.heap.size + 2, i, none⟩ := fun W h => World.cell?_of_block (Below.heap_setCell _ _ _ _ h)
        rw [e1 _ (by omega)]
        have e2 := Lib.bytesWorld_cell (wB wr t j tc x ⟨#[sgs.getD j 0]⟩ c) 5 ⟨(rps.getD j []).toArray⟩ i hi
        rw [wB_size] at e2
        exact e2
    · intro y hy hn
      have h1 := hn k (by omega)
      rw [Array.getElem?_setIfInBounds_ne h1, Array.getElem?_setIfInBounds_ne (by omega)]
      exact hc5 y hy (fun j hj => hn j (by omega))
theorem wC_below {w : World} {n : Nat} {v : Value} (h : Below w.heap.size w wr) (hbt : w.heap.size ≤ t) (hbc : w.heap.size ≤ c) : Below w.heap.size w ((wC wr t k tc x S c R).setCell ⟨c, n, none⟩ v) := by
  have hs := h.size
  refine Below.setCell ?_ hbc v
  have h1 : Below w.heap.size w (wA wr t k tc x S) := below_setRow ((h.alloc hs _).alloc (by simp; omega) _) hbt _
  have h2 : Below w.heap.size w (wB wr t k tc x S c) := Below.setCell h1 hbc _
  exact h2.trans ⟨rfl, rfl, rfl, by unfold wC; rw [Lib.bytesWorld_size]; omega, fun j hj => Lib.bytesWorld_at_old _ _ _ j (by rw [wB_size]; omega)⟩
end
/-- The record at its start. -/
theorem bld0 (w : World) (mc : Array Value) (hm : mc.size = 4) : Hid (Bld w.heap.size (w.heap.size + 1) w.heap.size 0 (((w.alloc (.cells mc 9)).alloc (.cells Tryz.zeroCells128 128)).setRow (w.heap.size + 1) (Tryz.zeroCells128.setIfInBounds 256 (.slice (some ⟨w.heap.size, 0, none⟩) 0 4)))) := by
  refine hid0 { lc := Nat.le_succ _, lt := Nat.le_refl _, ct := by omega, hc := by simp, ht := by simp; omega, row := ⟨mc, ?_, hm, fun j hj => by omega⟩, ary := ⟨_, setRow_heap _ _ _ _ _ _ (heap96 w mc), size96 _, ?_, fun j hj => by omega, fun x hx _ => ?_⟩ }
  · rw [setRow_other _ _ _ _ (by omega), Below.heap_alloc _ _ _ (by simp)]
    exact heap_alloc_new w _
  · rw [Array.getElem?_setIfInBounds_self_of_lt (by rw [zero96]; decide)]
  · rw [Array.getElem?_setIfInBounds_ne (by omega), zero96_eq, Array.getElem?_replicate, if_pos (by omega)]
theorem below0 (w : World) (mc : Array Value) : Below w.heap.size w (((w.alloc (.cells mc 9)).alloc (.cells Tryz.zeroCells128 128)).setRow (w.heap.size + 1) (Tryz.zeroCells128.setIfInBounds 256 (.slice (some ⟨w.heap.size, 0, none⟩) 0 4))) :=
  below_setRow (((Below.refl _ w).alloc (Nat.le_refl _) _).alloc (by simp) _) (Nat.le_succ _) _
end Go.Proofs.YtchdkiakdnanhaaGreatDoor.PA
