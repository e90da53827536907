/-
  Texts of the proof of RegistryPlays, part 1 of 3: contracts and plain laws. Conditions: see each statement.
-/
import Derived.Test.YtfhgdjajifnfiaaProg
import Derived.Below
import Derived.Deep.Draws
import Derived.Deep.AppendLies
import Derived.Maps.AppendAt
import Derived.OwnWalk
import Derived.Laws.BytesArg
import Derived.Laws.MakeOwn
import Derived.Laws.OwnMore
import Derived.Deep.OwnRows
import Derived.Tactics
import Derived.Lib.ConvBytes
import Derived.Laws.Slices
import Derived.WalkKit
import Derived.KernelRfl
import Derived.RowKit3
import Derived.Deep.LoopGhost
import Derived.Deep.QuietTactic
import Derived.BigQuiet
import Derived.WideLaws
import Derived.Deep.DeepCutAuto
import Derived.Deep.CutBlock
import Derived.Deep.RegionHeld3
import Derived.Laws.Rows
import Derived.Lib.AppendStr
import Derived.ArgAppend
import Derived.Laws.IdiomCopy
import Derived.OrdersHeld
import Derived.Laws.BitsLemmas
import Derived.RowKit
import Derived.Test.YtfhgdjajifnfiaaWWords
import Derived.Test.YtfhgdjajifnfiaaWLast
import Derived.Test.YtfhgdjajifnfiaaWTab
import Derived.Test.YtfhgdjajifnfiaaWFour
import Derived.Test.YtfhgdjajifnfiaaWQPut
import Derived.Test.YtfhgdjajifnfiaaWApart
import Derived.Test.YtfhgdjajifnfiaaWArr
import Derived.Test.YtfhgdjajifnfiaaWZeros
import Derived.Test.YtfhgdjajifnfiaaWFoot
import Derived.Test.YtfhgdjajifnfiaaWKept
import Derived.Test.YtfhgdjajifnfiaaWShare
import Derived.Test.YtfhgdjajifnfiaaWN
import Derived.Test.YtfhgdjajifnfiaaWFootNe
import Derived.Test.YtfhgdjajifnfiaaWAt
import Derived.Test.YtfhgdjajifnfiaaWEqStruct
import Derived.Test.YtfhgdjajifnfiaaWRepsOne
import Derived.Test.YtfhgdjajifnfiaaWInv
import Derived.Test.YtfhgdjajifnfiaaWInvWords
import Derived.Test.YtfhgdjajifnfiaaWGuard
import Derived.Test.YtfhgdjajifnfiaaWNEv
import Derived.Test.YtfhgdjajifnfiaaWMore
import Derived.Test.YtfhgdjajifnfiaaRows
import Derived.ProofKit
import Derived.OpenShut
import Derived.ShutString
import Derived.ChangeOld
import Derived.SizedLaws
import Derived.Deep.DeepHandedRow
import Derived.Lib.LaidTab
import Derived.Lib.LaidU8
import Derived.Shelf.Vars
import Derived.Test.YtfhgdjajifnfiaaWSized
import Derived.Deep.SlicePairs
import Derived.Maps.OwnSet
import Derived.Maps.OwnOps
import Derived.Maps.RangeWalk
import Derived.Sort.KeysCollected
import Derived.Carry
import Derived.StringKeys
import Derived.RegionTactic
import Derived.ChangeAlike
import Derived.BigRegion
import Derived.Laws.LoneSync
import Derived.Conc.MuLone
import Derived.Shelf.SlSortCmp.WholeK
import Derived.Ground.SlsfProg
import Derived.Shelf.Small.Bits
import Derived.Shelf.Small.Strs
import Derived.Shelf.Small.Wraps
import Derived.Shelf.Strconv.Itoa0
import Derived.Shelf.Strings.Search1
import Derived.Shelf.Lays
import Derived.Laws.Cover1
import Derived.Sort.Walk0
import Derived.Deep.RegionWith
import Derived.StillTailTactics
set_option linter.unusedVariables false
namespace Go.Proofs.Ytfhgdjajifnfiaa.PA
open Go.RowKit Go.Proofs.YtfhgdjajifnfiaaW.PrintWords Go.Proofs.YtfhgdjajifnfiaaW.PrintLast Go.Proofs.YtfhgdjajifnfiaaW.PrintMore
attribute [local go_sem] max2_int min2_int max_two min_two max_three min_three max_four min_four   -- for this text's walks alone
set_option linter.unusedVariables false
set_option linter.unusedSimpArgs false



def errW : Option Int → Value
  | none => .nilIface
  | some c => .iface 0 (.int .i64 c)
theorem errW_none : errW none = .nilIface := rfl
theorem errW_some (c : Int) : errW (some c) = .iface 0 (.int .i64 c) := rfl

theorem info27 : (Try.prog.info? 27).map (fun i => (i.zero, i.size, i.bytes)) = some (some (.agg #[(.string ⟨#[]⟩), (.int .i64 0), (.int .i64 0), (.string ⟨#[]⟩), (.int .i64 0)]), 5, 56) := by kernel_rfl
/-! #### struct type 27 -/
structure S27 where
  f0 : ByteArray
  f1 : Int
  f2 : Int
  f3 : ByteArray
  f4 : Int
def z27 : S27 := ⟨(⟨#[]⟩ : ByteArray), (0 : Int), (0 : Int), (⟨#[]⟩ : ByteArray), (0 : Int)⟩
def k27 : Kd S27 := Kd.iso (Kd.pair Kd.string (Kd.pair (Kd.int .i64) (Kd.pair (Kd.int .i64) (Kd.pair Kd.string (Kd.int .i64))))) (fun x : S27 => (x.f0, x.f1, x.f2, x.f3, x.f4))
theorem k27_open {w : World} {x : S27} {cs : List Value} (h : k27.K w x cs) : cs = [.string x.f0, .int .i64 x.f1, .int .i64 x.f2, .string x.f3, .int .i64 x.f4] := by
  obtain ⟨_, _, rfl, rfl, ⟨_, _, rfl, rfl, ⟨_, _, rfl, rfl, ⟨_, _, rfl, rfl, rfl⟩⟩⟩⟩ := h
  exact rfl
theorem k27_openM {w : World} {base : Nat} {ok : Nat → Prop} {x : S27} {cs : List Value} (h : k27.M w base ok x cs) : cs = [.string x.f0, .int .i64 x.f1, .int .i64 x.f2, .string x.f3, .int .i64 x.f4] := by
  obtain ⟨_, _, rfl, rfl, ⟨_, _, rfl, rfl, ⟨_, _, rfl, rfl, ⟨_, _, rfl, rfl, rfl⟩⟩⟩⟩ := h
  exact rfl
theorem k27_mk (w : World) (x : S27)  : k27.K w x [.string x.f0, .int .i64 x.f1, .int .i64 x.f2, .string x.f3, .int .i64 x.f4] := ⟨[.string x.f0], [.int .i64 x.f1, .int .i64 x.f2, .string x.f3, .int .i64 x.f4], rfl, rfl, ⟨[.int .i64 x.f1], [.int .i64 x.f2, .string x.f3, .int .i64 x.f4], rfl, rfl, ⟨[.int .i64 x.f2], [.string x.f3, .int .i64 x.f4], rfl, rfl, ⟨[.string x.f3], [.int .i64 x.f4], rfl, rfl, rfl⟩⟩⟩⟩
theorem k27_mkM (w : World) (base : Nat) (ok : Nat → Prop) (x : S27)  : k27.M w base ok x [.string x.f0, .int .i64 x.f1, .int .i64 x.f2, .string x.f3, .int .i64 x.f4] := ⟨[.string x.f0], [.int .i64 x.f1, .int .i64 x.f2, .string x.f3, .int .i64 x.f4], rfl, rfl, ⟨[.int .i64 x.f1], [.int .i64 x.f2, .string x.f3, .int .i64 x.f4], rfl, rfl, ⟨[.int .i64 x.f2], [.string x.f3, .int .i64 x.f4], rfl, rfl, ⟨[.string x.f3], [.int .i64 x.f4], rfl, rfl, rfl⟩⟩⟩⟩
def rd_T27 (xs : List S27) (i : Int) : S27 := xs.getD i.toNat z27
theorem at_T27 {w : World} {A : Option Addr} {n : Nat} {xs : List S27} (h : Kd.C k27 w A n xs) (i : Int) (h0 : 0 ≤ i) (h1 : i < n) : ∃ ad , A = some ad ∧ w.cell? (ad.add (i.toNat * 5)) = some (.string (rd_T27 xs i).f0) ∧ w.cell? ⟨(ad.add (i.toNat * 5)).block, (ad.add (i.toNat * 5)).off + 1, none⟩ = some (.int .i64 (rd_T27 xs i).f1) ∧ w.cell? ⟨(ad.add (i.toNat * 5)).block, (ad.add (i.toNat * 5)).off + 2, none⟩ = some (.int .i64 (rd_T27 xs i).f2) ∧ w.cell? ⟨(ad.add (i.toNat * 5)).block, (ad.add (i.toNat * 5)).off + 3, none⟩ = some (.string (rd_T27 xs i).f3) ∧ w.cell? ⟨(ad.add (i.toNat * 5)).block, (ad.add (i.toNat * 5)).off + 4, none⟩ = some (.int .i64 (rd_T27 xs i).f4) := by
  obtain ⟨ad, c, e, _, hK, hc0⟩ := Kd.C_get h z27 i h0 h1
  have hc : ∀ j u, c[j]? = some u → w.cell? (ad.add (i.toNat * 5 + j)) = some u := hc0
  obtain rfl := k27_open hK
  exact ⟨ad, e, hc 0 _ rfl, by rw [← add_field _ _ 1 (by omega)]; exact hc 1 _ rfl, by rw [← add_field _ _ 2 (by omega)]; exact hc 2 _ rfl, by rw [← add_field _ _ 3 (by omega)]; exact hc 3 _ rfl, by rw [← add_field _ _ 4 (by omega)]; exact hc 4 _ rfl⟩

end Go.Proofs.Ytfhgdjajifnfiaa.PA

namespace Go.Proofs.Ytfhgdjajifnfiaa.RowU8
open Go.ChangeShapes Go.WideShapes Go.ChangeAt Go.RowKit Go.Lib

theorem own : ownKnob Try.prog.godebug = none := by kernel_rfl
theorem laidOut : laidOutB Try.prog = true := by kernel_rfl
/-- A world for the witness: the settled one. -/
noncomputable def laidWorld (os : Os) : World := World.holding Try.prog os ⟨#[], #[], []⟩
set_option maxRecDepth 100000 in
/-- A hook that came in. -/
theorem hook_val {H : Type} {enc : TypeId × Value → H} {W : World} {base : Nat} {spare : Nat → Bool} {held : Bool} {fuel : Nat} {cs : Array Value} {x : DataW H × List MemPlace}
    (h : DataW.trod enc Try.prog W base spare held fuel 27 (Value.agg cs).cells.toList = some x) :
    ∃ a : PA.S27, cs = #[.string a.f0, .int .i64 a.f1, .int .i64 a.f2, .string a.f3, .int .i64 a.f4] := by
  have ce : Try.prog.cellsOf 27 = 5 := by kernel_rfl
  obtain ⟨xs, k, _, rfl, hlen, hxl, hf⟩ := DataW.trod_struct Try.underlying27 h
  rw [ce] at hlen
  have hl2 : cs.toList.length = 5 := hlen
  obtain ⟨l, hl⟩ : ∃ l, cs.toList = l := ⟨_, rfl⟩
  have hcs : cs = l.toArray := by rw [← hl]
  have hcell : (Value.agg cs).cells.toList = l := by rw [← hl]; rfl
  rw [hcell] at hf
  rw [hl] at hl2
  match xs, hxl, l, hl2, hcs with
  | [y0, y1, y2, y3, y4], _, [v0, v1, v2, v3, v4], _, hcs =>
    have g0 := hf 0 _ rfl
    have g1 := hf 1 _ rfl
    have g2 := hf 2 _ rfl
    have g3 := hf 3 _ rfl
    have g4 := hf 4 _ rfl
    have cs1 : Try.prog.cellsOf 9 = 1 := by kernel_rfl
    have cs2 : Try.prog.cellsOf 3 = 1 := by kernel_rfl
    simp [cs1, cs2] at g0 g1 g2 g3 g4
    obtain ⟨s0, e0, _⟩ := DataW.trod_string Try.underlying9 g0
    obtain ⟨s1, e1, _⟩ := DataW.trod_int Try.underlying3 g1
    obtain ⟨s2, e2, _⟩ := DataW.trod_int Try.underlying3 g2
    obtain ⟨s3, e3, _⟩ := DataW.trod_string Try.underlying9 g3
    obtain ⟨s4, e4, _⟩ := DataW.trod_int Try.underlying3 g4
    simp at e0 e1 e2 e3 e4
    subst e0 e1 e2 e3 e4
    exact ⟨⟨s0, s1, s2, s3, s4⟩, hcs⟩
end Go.Proofs.Ytfhgdjajifnfiaa.RowU8

namespace Go.Proofs.Ytfhgdjajifnfiaa.PA
open Go.RowKit Go.Proofs.YtfhgdjajifnfiaaW.PrintWords Go.Proofs.YtfhgdjajifnfiaaW.PrintLast Go.Proofs.YtfhgdjajifnfiaaW.PrintMore
attribute [local go_sem] max2_int min2_int max_two min_two max_three min_three max_four min_four   -- for this text's walks alone
set_option linter.unusedVariables false
set_option linter.unusedSimpArgs false

/-! ### incipitref07_Same: function 27 -/
def incipitref07_Same.l0 : Nat → List (S27) → List (S27) → Int → Option (Bool)
  | 0, _, _, _ => none
  | k + 1, x0, x1, x5 => if x5 < (x0.length : Int) then (if 0 ≤ x5 then (if x5 < (x1.length : Int) then (if ((rd_T27 x0 x5).f0).toList = ((rd_T27 x1 x5).f0).toList then (if ((rd_T27 x0 x5).f1) = ((rd_T27 x1 x5).f1) then (if ((rd_T27 x0 x5).f2) = ((rd_T27 x1 x5).f2) then (if ((rd_T27 x0 x5).f3).toList = ((rd_T27 x1 x5).f3).toList then (if ((rd_T27 x0 x5).f4) = ((rd_T27 x1 x5).f4) then (incipitref07_Same.l0 k x0 x1 (wrap64 (x5 + 1))) else (some false)) else (some false)) else (some false)) else (some false)) else (some false)) else (none)) else (none)) else (some true)
def incipitref07_Same.f (k : Nat) (l0 : List (S27)) (l1 : List (S27)) : Option (Bool) := if (l0.length : Int) = (l1.length : Int) then (incipitref07_Same.l0 k l0 l1 0) else (some false)
set_option maxHeartbeats 8000000 in
set_option maxRecDepth 100000 in
theorem incipitref07_Same.calls (k : Nat) (A0 : Option Addr) (c0 : Nat) (l0 : List (S27)) (A1 : Option Addr) (c1 : Nat) (l1 : List (S27)) (r : Bool) (w : World) (hr0 : Kd.C k27 w A0 l0.length l0) (hc0 : l0.length ≤ c0) (hr1 : Kd.C k27 w A1 l1.length l1) (hc1 : l1.length ≤ c1) (h : incipitref07_Same.f k l0 l1 = some r) :
    Calls Try.prog 27 #[.slice A0 l0.length c0, .slice A1 l1.length c1] w fun e w' => e = .returned (.bool r) ∧ Drawn0 w w' := by
  have HR0 := Aside0.mk hr0
  have HC0 := Aside0.mk hc0
  clear hr0 hc0
  have HR1 := Aside0.mk hr1
  have HC1 := Aside0.mk hc1
  clear hr1 hc1
  have H : (if (l0.length : Int) = (l1.length : Int) then (incipitref07_Same.l0 k l0 l1 0) else (some false)) = some r := h
  clear h
  by_cases c3 : (l0.length : Int) = (l1.length : Int)
  · rw [if_pos c3] at H
    have c3b0 : ((l0.length : Int) == (l1.length : Int)) = true := beq_iff_eq.mpr c3
    have c3b1 : ((l0.length : Int) != (l1.length : Int)) = false := bne_eq_false_iff_eq.mpr c3
    have c3b2 : (l0.length == l1.length) = true := by first | simpa using c3 | (simp at c3 ⊢; omega)
    clear c3
    have H' := Aside0.mk H
    clear H
    go_enter Try.func27, Try.ntmps27
    go_wp2
    repeat (go_quiet (fail); try go_wp2)
    go_loopg [5] k (fun kq v5 w' => ∃ (x5_1 : Int), v5 = .int .i64 x5_1 ∧ Aside0 (incipitref07_Same.l0 kq l0 l1 x5_1 = some r) ∧ Aside0 (kq ≤ k) ∧ Drawn0 w w')
    case atStart => exact ⟨(0), (by first | rfl | (simp; done) | (simp [*]; done)), H', ⟨Nat.le_refl _⟩, by repeat (first | exact Drawn0.refl _ | apply Drawn0.step)⟩
    case round =>
      clear H'
      try clear c1
      try clear c2
      try clear p2
      try clear c3
      try clear c3b0
      try clear c3b1
      try clear c3b2
      obtain ⟨x5_1, rfl, HA, HK1, ⟨m1, rfl⟩⟩ := hrel
      cases gk with
      | zero => exact absurd HA.out (by simp [incipitref07_Same.l0])
      | succ k1 =>
        have H := HA.out
        clear HA
        simp only [incipitref07_Same.l0] at H
        by_cases c4 : x5_1 < (l0.length : Int)
        · rw [if_pos c4] at H
          have c4b0 : decide (x5_1 < (l0.length : Int)) = true := decide_eq_true c4
          clear c4
          by_cases c5 : 0 ≤ x5_1
          · rw [if_pos c5] at H
            have c5b0 : decide (0 ≤ x5_1) = true := decide_eq_true c5
            clear c5
            by_cases c6 : x5_1 < (l1.length : Int)
            · rw [if_pos c6] at H
              have c6b0 : decide (x5_1 < (l1.length : Int)) = true := decide_eq_true c6
              clear c6
              by_cases c7 : ((rd_T27 l0 x5_1).f0).toList = ((rd_T27 l1 x5_1).f0).toList
              · rw [if_pos c7] at H
                have c7b0 : (((rd_T27 l0 x5_1).f0).toList == ((rd_T27 l1 x5_1).f0).toList) = true := beq_iff_eq.mpr c7
                have c7b1 : (((rd_T27 l0 x5_1).f0).toList != ((rd_T27 l1 x5_1).f0).toList) = false := bne_eq_false_iff_eq.mpr c7
                clear c7
                by_cases c8 : ((rd_T27 l0 x5_1).f1) = ((rd_T27 l1 x5_1).f1)
                · rw [if_pos c8] at H
                  have c8b0 : (((rd_T27 l0 x5_1).f1) == ((rd_T27 l1 x5_1).f1)) = true := beq_iff_eq.mpr c8
                  have c8b1 : (((rd_T27 l0 x5_1).f1) != ((rd_T27 l1 x5_1).f1)) = false := bne_eq_false_iff_eq.mpr c8
                  clear c8
                  by_cases c9 : ((rd_T27 l0 x5_1).f2) = ((rd_T27 l1 x5_1).f2)
                  · rw [if_pos c9] at H
                    have c9b0 : (((rd_T27 l0 x5_1).f2) == ((rd_T27 l1 x5_1).f2)) = true := beq_iff_eq.mpr c9
                    have c9b1 : (((rd_T27 l0 x5_1).f2) != ((rd_T27 l1 x5_1).f2)) = false := bne_eq_false_iff_eq.mpr c9
                    clear c9
                    by_cases c10 : ((rd_T27 l0 x5_1).f3).toList = ((rd_T27 l1 x5_1).f3).toList
                    · rw [if_pos c10] at H
                      have c10b0 : (((rd_T27 l0 x5_1).f3).toList == ((rd_T27 l1 x5_1).f3).toList) = true := beq_iff_eq.mpr c10
                      have c10b1 : (((rd_T27 l0 x5_1).f3).toList != ((rd_T27 l1 x5_1).f3).toList) = false := bne_eq_false_iff_eq.mpr c10
                      clear c10
                      by_cases c11 : ((rd_T27 l0 x5_1).f4) = ((rd_T27 l1 x5_1).f4)
                      · rw [if_pos c11] at H
                        have c11b0 : (((rd_T27 l0 x5_1).f4) == ((rd_T27 l1 x5_1).f4)) = true := beq_iff_eq.mpr c11
                        have c11b1 : (((rd_T27 l0 x5_1).f4) != ((rd_T27 l1 x5_1).f4)) = false := bne_eq_false_iff_eq.mpr c11
                        clear c11
                        have H' := Aside0.mk H
                        clear H
                        have p101 : 0 ≤ (x5_1 : Int) := of_decide_eq_true (by first | (with_reducible assumption) | assumption)
                        have q101 : x5_1 < (l0.length : Int) := of_decide_eq_true (by first | (with_reducible assumption) | assumption)
                        obtain ⟨ad101, e101, hx101_0, hx101_1, hx101_2, hx101_3, hx101_4⟩ := at_T27 HR0.out x5_1 p101 q101
                        cases e101
                        replace p101 := eq_true p101
                        replace q101 := eq_true q101
                        have p102 : 0 ≤ (x5_1 : Int) := of_decide_eq_true (by first | (with_reducible assumption) | assumption)
                        have q102 : x5_1 < (l1.length : Int) := of_decide_eq_true (by first | (with_reducible assumption) | assumption)
                        obtain ⟨ad102, e102, hx102_0, hx102_1, hx102_2, hx102_3, hx102_4⟩ := at_T27 HR1.out x5_1 p102 q102
                        cases e102
                        replace p102 := eq_true p102
                        replace q102 := eq_true q102
                        have p103 : 0 ≤ (x5_1 : Int) := of_decide_eq_true (by first | (with_reducible assumption) | assumption)
                        have q103 : x5_1 < (l0.length : Int) := of_decide_eq_true (by first | (with_reducible assumption) | assumption)
                        obtain ⟨ad103, e103, hx103_0, hx103_1, hx103_2, hx103_3, hx103_4⟩ := at_T27 HR0.out x5_1 p103 q103
                        obtain rfl : ad101 = ad103 := (by injection e103)
                        replace p103 := eq_true p103
                        replace q103 := eq_true q103
                        have p104 : 0 ≤ (x5_1 : Int) := of_decide_eq_true (by first | (with_reducible assumption) | assumption)
                        have q104 : x5_1 < (l1.length : Int) := of_decide_eq_true (by first | (with_reducible assumption) | assumption)
                        obtain ⟨ad104, e104, hx104_0, hx104_1, hx104_2, hx104_3, hx104_4⟩ := at_T27 HR1.out x5_1 p104 q104
                        obtain rfl : ad102 = ad104 := (by injection e104)
                        replace p104 := eq_true p104
                        replace q104 := eq_true q104
                        have p105 : 0 ≤ (x5_1 : Int) := of_decide_eq_true (by first | (with_reducible assumption) | assumption)
                        have q105 : x5_1 < (l0.length : Int) := of_decide_eq_true (by first | (with_reducible assumption) | assumption)
                        obtain ⟨ad105, e105, hx105_0, hx105_1, hx105_2, hx105_3, hx105_4⟩ := at_T27 HR0.out x5_1 p105 q105
                        obtain rfl : ad101 = ad105 := (by injection e105)
                        replace p105 := eq_true p105
                        replace q105 := eq_true q105
                        have p106 : 0 ≤ (x5_1 : Int) := of_decide_eq_true (by first | (with_reducible assumption) | assumption)
                        have q106 : x5_1 < (l1.length : Int) := of_decide_eq_true (by first | (with_reducible assumption) | assumption)
                        obtain ⟨ad106, e106, hx106_0, hx106_1, hx106_2, hx106_3, hx106_4⟩ := at_T27 HR1.out x5_1 p106 q106
                        obtain rfl : ad102 = ad106 := (by injection e106)
                        replace p106 := eq_true p106
                        replace q106 := eq_true q106
                        have p107 : 0 ≤ (x5_1 : Int) := of_decide_eq_true (by first | (with_reducible assumption) | assumption)
                        have q107 : x5_1 < (l0.length : Int) := of_decide_eq_true (by first | (with_reducible assumption) | assumption)
                        obtain ⟨ad107, e107, hx107_0, hx107_1, hx107_2, hx107_3, hx107_4⟩ := at_T27 HR0.out x5_1 p107 q107
                        obtain rfl : ad101 = ad107 := (by injection e107)
                        replace p107 := eq_true p107
                        replace q107 := eq_true q107
                        have p108 : 0 ≤ (x5_1 : Int) := of_decide_eq_true (by first | (with_reducible assumption) | assumption)
                        have q108 : x5_1 < (l1.length : Int) := of_decide_eq_true (by first | (with_reducible assumption) | assumption)
                        obtain ⟨ad108, e108, hx108_0, hx108_1, hx108_2, hx108_3, hx108_4⟩ := at_T27 HR1.out x5_1 p108 q108
                        obtain rfl : ad102 = ad108 := (by injection e108)
                        replace p108 := eq_true p108
                        replace q108 := eq_true q108
                        have p109 : 0 ≤ (x5_1 : Int) := of_decide_eq_true (by first | (with_reducible assumption) | assumption)
                        have q109 : x5_1 < (l0.length : Int) := of_decide_eq_true (by first | (with_reducible assumption) | assumption)
                        obtain ⟨ad109, e109, hx109_0, hx109_1, hx109_2, hx109_3, hx109_4⟩ := at_T27 HR0.out x5_1 p109 q109
                        obtain rfl : ad101 = ad109 := (by injection e109)
                        replace p109 := eq_true p109
                        replace q109 := eq_true q109
                        have p110 : 0 ≤ (x5_1 : Int) := of_decide_eq_true (by first | (with_reducible assumption) | assumption)
                        have q110 : x5_1 < (l1.length : Int) := of_decide_eq_true (by first | (with_reducible assumption) | assumption)
                        obtain ⟨ad110, e110, hx110_0, hx110_1, hx110_2, hx110_3, hx110_4⟩ := at_T27 HR1.out x5_1 p110 q110
                        obtain rfl : ad102 = ad110 := (by injection e110)
                        replace p110 := eq_true p110
                        replace q110 := eq_true q110
                        go_wp2
                        repeat (go_quiet (fail); try go_wp2)
                        go_roundg k1
                        case measure => have := HK1.out; omega
                        case rel => exact ⟨(wrap64 (x5_1 + 1)), (by first | rfl | (simp; done) | (simp [*]; done)), H', ⟨by have := HK1.out; omega⟩, by repeat (first | exact Drawn0.refl _ | apply Drawn0.step)⟩
                      · rw [if_neg c11] at H
                        have c11b0 : (((rd_T27 l0 x5_1).f4) == ((rd_T27 l1 x5_1).f4)) = false := beq_eq_false_iff_ne.mpr c11
                        have c11b1 : (((rd_T27 l0 x5_1).f4) != ((rd_T27 l1 x5_1).f4)) = true := bne_iff_ne.mpr c11
                        obtain rfl := Option.some.inj H
                        have p101 : 0 ≤ (x5_1 : Int) := of_decide_eq_true (by first | (with_reducible assumption) | assumption)
                        have q101 : x5_1 < (l0.length : Int) := of_decide_eq_true (by first | (with_reducible assumption) | assumption)
                        obtain ⟨ad101, e101, hx101_0, hx101_1, hx101_2, hx101_3, hx101_4⟩ := at_T27 HR0.out x5_1 p101 q101
                        cases e101
                        replace p101 := eq_true p101
                        replace q101 := eq_true q101
                        have p102 : 0 ≤ (x5_1 : Int) := of_decide_eq_true (by first | (with_reducible assumption) | assumption)
                        have q102 : x5_1 < (l1.length : Int) := of_decide_eq_true (by first | (with_reducible assumption) | assumption)
                        obtain ⟨ad102, e102, hx102_0, hx102_1, hx102_2, hx102_3, hx102_4⟩ := at_T27 HR1.out x5_1 p102 q102
                        cases e102
                        replace p102 := eq_true p102
                        replace q102 := eq_true q102
                        have p103 : 0 ≤ (x5_1 : Int) := of_decide_eq_true (by first | (with_reducible assumption) | assumption)
                        have q103 : x5_1 < (l0.length : Int) := of_decide_eq_true (by first | (with_reducible assumption) | assumption)
                        obtain ⟨ad103, e103, hx103_0, hx103_1, hx103_2, hx103_3, hx103_4⟩ := at_T27 HR0.out x5_1 p103 q103
                        obtain rfl : ad101 = ad103 := (by injection e103)
                        replace p103 := eq_true p103
                        replace q103 := eq_true q103
                        have p104 : 0 ≤ (x5_1 : Int) := of_decide_eq_true (by first | (with_reducible assumption) | assumption)
                        have q104 : x5_1 < (l1.length : Int) := of_decide_eq_true (by first | (with_reducible assumption) | assumption)
                        obtain ⟨ad104, e104, hx104_0, hx104_1, hx104_2, hx104_3, hx104_4⟩ := at_T27 HR1.out x5_1 p104 q104
                        obtain rfl : ad102 = ad104 := (by injection e104)
                        replace p104 := eq_true p104
                        replace q104 := eq_true q104
                        have p105 : 0 ≤ (x5_1 : Int) := of_decide_eq_true (by first | (with_reducible assumption) | assumption)
                        have q105 : x5_1 < (l0.length : Int) := of_decide_eq_true (by first | (with_reducible assumption) | assumption)
                        obtain ⟨ad105, e105, hx105_0, hx105_1, hx105_2, hx105_3, hx105_4⟩ := at_T27 HR0.out x5_1 p105 q105
                        obtain rfl : ad101 = ad105 := (by injection e105)
                        replace p105 := eq_true p105
                        replace q105 := eq_true q105
                        have p106 : 0 ≤ (x5_1 : Int) := of_decide_eq_true (by first | (with_reducible assumption) | assumption)
                        have q106 : x5_1 < (l1.length : Int) := of_decide_eq_true (by first | (with_reducible assumption) | assumption)
                        obtain ⟨ad106, e106, hx106_0, hx106_1, hx106_2, hx106_3, hx106_4⟩ := at_T27 HR1.out x5_1 p106 q106
                        obtain rfl : ad102 = ad106 := (by injection e106)
                        replace p106 := eq_true p106
                        replace q106 := eq_true q106
                        have p107 : 0 ≤ (x5_1 : Int) := of_decide_eq_true (by first | (with_reducible assumption) | assumption)
                        have q107 : x5_1 < (l0.length : Int) := of_decide_eq_true (by first | (with_reducible assumption) | assumption)
                        obtain ⟨ad107, e107, hx107_0, hx107_1, hx107_2, hx107_3, hx107_4⟩ := at_T27 HR0.out x5_1 p107 q107
                        obtain rfl : ad101 = ad107 := (by injection e107)
                        replace p107 := eq_true p107
                        replace q107 := eq_true q107
                        have p108 : 0 ≤ (x5_1 : Int) := of_decide_eq_true (by first | (with_reducible assumption) | assumption)
                        have q108 : x5_1 < (l1.length : Int) := of_decide_eq_true (by first | (with_reducible assumption) | assumption)
                        obtain ⟨ad108, e108, hx108_0, hx108_1, hx108_2, hx108_3, hx108_4⟩ := at_T27 HR1.out x5_1 p108 q108
                        obtain rfl : ad102 = ad108 := (by injection e108)
                        replace p108 := eq_true p108
                        replace q108 := eq_true q108
                        have p109 : 0 ≤ (x5_1 : Int) := of_decide_eq_true (by first | (with_reducible assumption) | assumption)
                        have q109 : x5_1 < (l0.length : Int) := of_decide_eq_true (by first | (with_reducible assumption) | assumption)
                        obtain ⟨ad109, e109, hx109_0, hx109_1, hx109_2, hx109_3, hx109_4⟩ := at_T27 HR0.out x5_1 p109 q109
                        obtain rfl : ad101 = ad109 := (by injection e109)
                        replace p109 := eq_true p109
                        replace q109 := eq_true q109
                        have p110 : 0 ≤ (x5_1 : Int) := of_decide_eq_true (by first | (with_reducible assumption) | assumption)
                        have q110 : x5_1 < (l1.length : Int) := of_decide_eq_true (by first | (with_reducible assumption) | assumption)
                        obtain ⟨ad110, e110, hx110_0, hx110_1, hx110_2, hx110_3, hx110_4⟩ := at_T27 HR1.out x5_1 p110 q110
                        obtain rfl : ad102 = ad110 := (by injection e110)
                        replace p110 := eq_true p110
                        replace q110 := eq_true q110
                        go_wp2
                        repeat (go_quiet (fail); try go_wp2)
                        go_ret
                        exact ⟨by first | rfl | (simp; done) | (simp [*]; done), by repeat (first | exact Drawn0.refl _ | apply Drawn0.step)⟩
                    · rw [if_neg c10] at H
                      have c10b0 : (((rd_T27 l0 x5_1).f3).toList == ((rd_T27 l1 x5_1).f3).toList) = false := beq_eq_false_iff_ne.mpr c10
                      have c10b1 : (((rd_T27 l0 x5_1).f3).toList != ((rd_T27 l1 x5_1).f3).toList) = true := bne_iff_ne.mpr c10
                      obtain rfl := Option.some.inj H
                      have p101 : 0 ≤ (x5_1 : Int) := of_decide_eq_true (by first | (with_reducible assumption) | assumption)
                      have q101 : x5_1 < (l0.length : Int) := of_decide_eq_true (by first | (with_reducible assumption) | assumption)
                      obtain ⟨ad101, e101, hx101_0, hx101_1, hx101_2, hx101_3, hx101_4⟩ := at_T27 HR0.out x5_1 p101 q101
                      cases e101
                      replace p101 := eq_true p101
                      replace q101 := eq_true q101
                      have p102 : 0 ≤ (x5_1 : Int) := of_decide_eq_true (by first | (with_reducible assumption) | assumption)
                      have q102 : x5_1 < (l1.length : Int) := of_decide_eq_true (by first | (with_reducible assumption) | assumption)
                      obtain ⟨ad102, e102, hx102_0, hx102_1, hx102_2, hx102_3, hx102_4⟩ := at_T27 HR1.out x5_1 p102 q102
                      cases e102
                      replace p102 := eq_true p102
                      replace q102 := eq_true q102
                      have p103 : 0 ≤ (x5_1 : Int) := of_decide_eq_true (by first | (with_reducible assumption) | assumption)
                      have q103 : x5_1 < (l0.length : Int) := of_decide_eq_true (by first | (with_reducible assumption) | assumption)
                      obtain ⟨ad103, e103, hx103_0, hx103_1, hx103_2, hx103_3, hx103_4⟩ := at_T27 HR0.out x5_1 p103 q103
                      obtain rfl : ad101 = ad103 := (by injection e103)
                      replace p103 := eq_true p103
                      replace q103 := eq_true q103
                      have p104 : 0 ≤ (x5_1 : Int) := of_decide_eq_true (by first | (with_reducible assumption) | assumption)
                      have q104 : x5_1 < (l1.length : Int) := of_decide_eq_true (by first | (with_reducible assumption) | assumption)
                      obtain ⟨ad104, e104, hx104_0, hx104_1, hx104_2, hx104_3, hx104_4⟩ := at_T27 HR1.out x5_1 p104 q104
                      obtain rfl : ad102 = ad104 := (by injection e104)
                      replace p104 := eq_true p104
                      replace q104 := eq_true q104
                      have p105 : 0 ≤ (x5_1 : Int) := of_decide_eq_true (by first | (with_reducible assumption) | assumption)
                      have q105 : x5_1 < (l0.length : Int) := of_decide_eq_true (by first | (with_reducible assumption) | assumption)
                      obtain ⟨ad105, e105, hx105_0, hx105_1, hx105_2, hx105_3, hx105_4⟩ := at_T27 HR0.out x5_1 p105 q105
                      obtain rfl : ad101 = ad105 := (by injection e105)
                      replace p105 := eq_true p105
                      replace q105 := eq_true q105
                      have p106 : 0 ≤ (x5_1 : Int) := of_decide_eq_true (by first | (with_reducible assumption) | assumption)
                      have q106 : x5_1 < (l1.length : Int) := of_decide_eq_true (by first | (with_reducible assumption) | assumption)
                      obtain ⟨ad106, e106, hx106_0, hx106_1, hx106_2, hx106_3, hx106_4⟩ := at_T27 HR1.out x5_1 p106 q106
                      obtain rfl : ad102 = ad106 := (by injection e106)
                      replace p106 := eq_true p106
                      replace q106 := eq_true q106
                      have p107 : 0 ≤ (x5_1 : Int) := of_decide_eq_true (by first | (with_reducible assumption) | assumption)
                      have q107 : x5_1 < (l0.length : Int) := of_decide_eq_true (by first | (with_reducible assumption) | assumption)
                      obtain ⟨ad107, e107, hx107_0, hx107_1, hx107_2, hx107_3, hx107_4⟩ := at_T27 HR0.out x5_1 p107 q107
                      obtain rfl : ad101 = ad107 := (by injection e107)
                      replace p107 := eq_true p107
                      replace q107 := eq_true q107
                      have p108 : 0 ≤ (x5_1 : Int) := of_decide_eq_true (by first | (with_reducible assumption) | assumption)
                      have q108 : x5_1 < (l1.length : Int) := of_decide_eq_true (by first | (with_reducible assumption) | assumption)
                      obtain ⟨ad108, e108, hx108_0, hx108_1, hx108_2, hx108_3, hx108_4⟩ := at_T27 HR1.out x5_1 p108 q108
                      obtain rfl : ad102 = ad108 := (by injection e108)
                      replace p108 := eq_true p108
                      replace q108 := eq_true q108
                      go_wp2
                      repeat (go_quiet (fail); try go_wp2)
                      go_ret
                      exact ⟨by first | rfl | (simp; done) | (simp [*]; done), by repeat (first | exact Drawn0.refl _ | apply Drawn0.step)⟩
                  · rw [if_neg c9] at H
                    have c9b0 : (((rd_T27 l0 x5_1).f2) == ((rd_T27 l1 x5_1).f2)) = false := beq_eq_false_iff_ne.mpr c9
                    have c9b1 : (((rd_T27 l0 x5_1).f2) != ((rd_T27 l1 x5_1).f2)) = true := bne_iff_ne.mpr c9
                    obtain rfl := Option.some.inj H
                    have p101 : 0 ≤ (x5_1 : Int) := of_decide_eq_true (by first | (with_reducible assumption) | assumption)
                    have q101 : x5_1 < (l0.length : Int) := of_decide_eq_true (by first | (with_reducible assumption) | assumption)
                    obtain ⟨ad101, e101, hx101_0, hx101_1, hx101_2, hx101_3, hx101_4⟩ := at_T27 HR0.out x5_1 p101 q101
                    cases e101
                    replace p101 := eq_true p101
                    replace q101 := eq_true q101
                    have p102 : 0 ≤ (x5_1 : Int) := of_decide_eq_true (by first | (with_reducible assumption) | assumption)
                    have q102 : x5_1 < (l1.length : Int) := of_decide_eq_true (by first | (with_reducible assumption) | assumption)
                    obtain ⟨ad102, e102, hx102_0, hx102_1, hx102_2, hx102_3, hx102_4⟩ := at_T27 HR1.out x5_1 p102 q102
                    cases e102
                    replace p102 := eq_true p102
                    replace q102 := eq_true q102
                    have p103 : 0 ≤ (x5_1 : Int) := of_decide_eq_true (by first | (with_reducible assumption) | assumption)
                    have q103 : x5_1 < (l0.length : Int) := of_decide_eq_true (by first | (with_reducible assumption) | assumption)
                    obtain ⟨ad103, e103, hx103_0, hx103_1, hx103_2, hx103_3, hx103_4⟩ := at_T27 HR0.out x5_1 p103 q103
                    obtain rfl : ad101 = ad103 := (by injection e103)
                    replace p103 := eq_true p103
                    replace q103 := eq_true q103
                    have p104 : 0 ≤ (x5_1 : Int) := of_decide_eq_true (by first | (with_reducible assumption) | assumption)
                    have q104 : x5_1 < (l1.length : Int) := of_decide_eq_true (by first | (with_reducible assumption) | assumption)
                    obtain ⟨ad104, e104, hx104_0, hx104_1, hx104_2, hx104_3, hx104_4⟩ := at_T27 HR1.out x5_1 p104 q104
                    obtain rfl : ad102 = ad104 := (by injection e104)
                    replace p104 := eq_true p104
                    replace q104 := eq_true q104
                    have p105 : 0 ≤ (x5_1 : Int) := of_decide_eq_true (by first | (with_reducible assumption) | assumption)
                    have q105 : x5_1 < (l0.length : Int) := of_decide_eq_true (by first | (with_reducible assumption) | assumption)
                    obtain ⟨ad105, e105, hx105_0, hx105_1, hx105_2, hx105_3, hx105_4⟩ := at_T27 HR0.out x5_1 p105 q105
                    obtain rfl : ad101 = ad105 := (by injection e105)
                    replace p105 := eq_true p105
                    replace q105 := eq_true q105
                    have p106 : 0 ≤ (x5_1 : Int) := of_decide_eq_true (by first | (with_reducible assumption) | assumption)
                    have q106 : x5_1 < (l1.length : Int) := of_decide_eq_true (by first | (with_reducible assumption) | assumption)
                    obtain ⟨ad106, e106, hx106_0, hx106_1, hx106_2, hx106_3, hx106_4⟩ := at_T27 HR1.out x5_1 p106 q106
                    obtain rfl : ad102 = ad106 := (by injection e106)
                    replace p106 := eq_true p106
                    replace q106 := eq_true q106
                    go_wp2
                    repeat (go_quiet (fail); try go_wp2)
                    go_ret
                    exact ⟨by first | rfl | (simp; done) | (simp [*]; done), by repeat (first | exact Drawn0.refl _ | apply Drawn0.step)⟩
                · rw [if_neg c8] at H
                  have c8b0 : (((rd_T27 l0 x5_1).f1) == ((rd_T27 l1 x5_1).f1)) = false := beq_eq_false_iff_ne.mpr c8
                  have c8b1 : (((rd_T27 l0 x5_1).f1) != ((rd_T27 l1 x5_1).f1)) = true := bne_iff_ne.mpr c8
                  obtain rfl := Option.some.inj H
                  have p101 : 0 ≤ (x5_1 : Int) := of_decide_eq_true (by first | (with_reducible assumption) | assumption)
                  have q101 : x5_1 < (l0.length : Int) := of_decide_eq_true (by first | (with_reducible assumption) | assumption)
                  obtain ⟨ad101, e101, hx101_0, hx101_1, hx101_2, hx101_3, hx101_4⟩ := at_T27 HR0.out x5_1 p101 q101
                  cases e101
                  replace p101 := eq_true p101
                  replace q101 := eq_true q101
                  have p102 : 0 ≤ (x5_1 : Int) := of_decide_eq_true (by first | (with_reducible assumption) | assumption)
                  have q102 : x5_1 < (l1.length : Int) := of_decide_eq_true (by first | (with_reducible assumption) | assumption)
                  obtain ⟨ad102, e102, hx102_0, hx102_1, hx102_2, hx102_3, hx102_4⟩ := at_T27 HR1.out x5_1 p102 q102
                  cases e102
                  replace p102 := eq_true p102
                  replace q102 := eq_true q102
                  have p103 : 0 ≤ (x5_1 : Int) := of_decide_eq_true (by first | (with_reducible assumption) | assumption)
                  have q103 : x5_1 < (l0.length : Int) := of_decide_eq_true (by first | (with_reducible assumption) | assumption)
                  obtain ⟨ad103, e103, hx103_0, hx103_1, hx103_2, hx103_3, hx103_4⟩ := at_T27 HR0.out x5_1 p103 q103
                  obtain rfl : ad101 = ad103 := (by injection e103)
                  replace p103 := eq_true p103
                  replace q103 := eq_true q103
                  have p104 : 0 ≤ (x5_1 : Int) := of_decide_eq_true (by first | (with_reducible assumption) | assumption)
                  have q104 : x5_1 < (l1.length : Int) := of_decide_eq_true (by first | (with_reducible assumption) | assumption)
                  obtain ⟨ad104, e104, hx104_0, hx104_1, hx104_2, hx104_3, hx104_4⟩ := at_T27 HR1.out x5_1 p104 q104
                  obtain rfl : ad102 = ad104 := (by injection e104)
                  replace p104 := eq_true p104
                  replace q104 := eq_true q104
                  go_wp2
                  repeat (go_quiet (fail); try go_wp2)
                  go_ret
                  exact ⟨by first | rfl | (simp; done) | (simp [*]; done), by repeat (first | exact Drawn0.refl _ | apply Drawn0.step)⟩
              · rw [if_neg c7] at H
                have c7b0 : (((rd_T27 l0 x5_1).f0).toList == ((rd_T27 l1 x5_1).f0).toList) = false := beq_eq_false_iff_ne.mpr c7
                have c7b1 : (((rd_T27 l0 x5_1).f0).toList != ((rd_T27 l1 x5_1).f0).toList) = true := bne_iff_ne.mpr c7
                obtain rfl := Option.some.inj H
                have p101 : 0 ≤ (x5_1 : Int) := of_decide_eq_true (by first | (with_reducible assumption) | assumption)
                have q101 : x5_1 < (l0.length : Int) := of_decide_eq_true (by first | (with_reducible assumption) | assumption)
                obtain ⟨ad101, e101, hx101_0, hx101_1, hx101_2, hx101_3, hx101_4⟩ := at_T27 HR0.out x5_1 p101 q101
                cases e101
                replace p101 := eq_true p101
                replace q101 := eq_true q101
                have p102 : 0 ≤ (x5_1 : Int) := of_decide_eq_true (by first | (with_reducible assumption) | assumption)
                have q102 : x5_1 < (l1.length : Int) := of_decide_eq_true (by first | (with_reducible assumption) | assumption)
                obtain ⟨ad102, e102, hx102_0, hx102_1, hx102_2, hx102_3, hx102_4⟩ := at_T27 HR1.out x5_1 p102 q102
                cases e102
                replace p102 := eq_true p102
                replace q102 := eq_true q102
                go_wp2
                repeat (go_quiet (fail); try go_wp2)
                go_ret
                exact ⟨by first | rfl | (simp; done) | (simp [*]; done), by repeat (first | exact Drawn0.refl _ | apply Drawn0.step)⟩
            · rw [if_neg c6] at H
              exact absurd H (by simp)
          · rw [if_neg c5] at H
            exact absurd H (by simp)
        · rw [if_neg c4] at H
          have c4b0 : decide (x5_1 < (l0.length : Int)) = false := decide_eq_false c4
          clear c4
          obtain rfl := Option.some.inj H
          go_wp2
          repeat (go_quiet (fail); try go_wp2)
          go_ret
          exact ⟨by first | rfl | (simp; done) | (simp [*]; done), by repeat (first | exact Drawn0.refl _ | apply Drawn0.step)⟩
  · rw [if_neg c3] at H
    have c3b0 : ((l0.length : Int) == (l1.length : Int)) = false := beq_eq_false_iff_ne.mpr c3
    have c3b1 : ((l0.length : Int) != (l1.length : Int)) = true := bne_iff_ne.mpr c3
    have c3b2 : (l0.length == l1.length) = false := by first | simpa using c3 | (simp at c3 ⊢; omega)
    obtain rfl := Option.some.inj H
    go_enter Try.func27, Try.ntmps27
    go_wp2
    repeat (go_quiet (fail); try go_wp2)
    go_ret
    exact ⟨by first | rfl | (simp; done) | (simp [*]; done), by repeat (first | exact Drawn0.refl _ | apply Drawn0.step)⟩

/-! ### incipitlaw07_same: function 12 -/
def incipitlaw07_same.f (k : Nat) (l0 : List (S27)) (l1 : List (S27)) : Option (Bool) := (incipitref07_Same.f k l0 l1).bind fun t111 => (some t111)
set_option maxHeartbeats 8000000 in
set_option maxRecDepth 100000 in
theorem incipitlaw07_same.calls (k : Nat) (A0 : Option Addr) (c0 : Nat) (l0 : List (S27)) (A1 : Option Addr) (c1 : Nat) (l1 : List (S27)) (r : Bool) (w : World) (hr0 : Kd.C k27 w A0 l0.length l0) (hc0 : l0.length ≤ c0) (hr1 : Kd.C k27 w A1 l1.length l1) (hc1 : l1.length ≤ c1) (h : incipitlaw07_same.f k l0 l1 = some r) :
    Calls Try.prog 12 #[.slice A0 l0.length c0, .slice A1 l1.length c1] w fun e w' => e = .returned (.bool r) ∧ Drawn0 w w' := by
  have HR0 := Aside0.mk hr0
  have HC0 := Aside0.mk hc0
  clear hr0 hc0
  have HR1 := Aside0.mk hr1
  have HC1 := Aside0.mk hc1
  clear hr1 hc1
  have H : ((incipitref07_Same.f k l0 l1).bind fun t111 => (some t111)) = some r := h
  clear h
  replace H := Option.bind_eq_some_iff.mp H
  obtain ⟨t111, A30, H⟩ := H
  replace H : (some t111) = some r := H
  have A3 := Aside0.mk A30
  clear A30
  obtain rfl := Option.some.inj H
  go_enter Try.func12, Try.ntmps12
  go_wp2_with (first | ((with_reducible refine gate_callee (f := 27) rfl ?_); refine goesL_ (some 7) rfl rfl Try.func27 (by kernel_rfl) rfl #[.slice A0 l0.length c0, .slice A1 l1.length c1] rfl (by (try simp only [List.map_toArray, List.map_cons, List.map_nil]); first | done | rfl | (simp only [List.length_drop, List.length_take]; rfl)) ?_; (with_reducible refine (incipitref07_Same.calls k _ _ l0 _ _ l1 t111 _ ?side1 ?side2 ?side3 ?side4 A3.out).mono ?_); (case side1 => repeat (first | exact HR0.out | (with_reducible refine Kd.C_alloc ?_ _) | (with_reducible refine Kd.C_drewN ?_ _) | (with_reducible refine Kd.C_drew ?_))); (case side2 => exact HC0.out); (case side3 => repeat (first | exact HR1.out | (with_reducible refine Kd.C_alloc ?_ _) | (with_reducible refine Kd.C_drewN ?_ _) | (with_reducible refine Kd.C_drew ?_))); (case side4 => exact HC1.out); rintro e w' ⟨rfl, ⟨nd, rfl⟩⟩; refine ⟨_, rfl, ?_⟩))
  go_ret
  exact ⟨by first | rfl | (simp; done) | (simp [*]; done), by repeat (first | exact Drawn0.refl _ | apply Drawn0.step)⟩

/-! ### incipitref07_Core: function 13 -/
/-! ### registry_Core: function 11 -/
def registry_Core.f  : Option ((List (S27))) := some (([(⟨(⟨#[113, 117, 111, 116, 101]⟩ : ByteArray), 1, 100, (⟨#[]⟩ : ByteArray), 0⟩ : S27), (⟨(⟨#[102, 101, 110, 99, 101]⟩ : ByteArray), 1, 200, (⟨#[]⟩ : ByteArray), 0⟩ : S27), (⟨(⟨#[99, 111, 100, 101]⟩ : ByteArray), 1, 210, (⟨#[]⟩ : ByteArray), 0⟩ : S27), (⟨(⟨#[104, 101, 97, 100, 105, 110, 103]⟩ : ByteArray), 1, 300, (⟨#[]⟩ : ByteArray), 0⟩ : S27), (⟨(⟨#[114, 117, 108, 101]⟩ : ByteArray), 1, 400, (⟨#[]⟩ : ByteArray), 0⟩ : S27), (⟨(⟨#[104, 116, 109, 108]⟩ : ByteArray), 1, 500, (⟨#[]⟩ : ByteArray), 0⟩ : S27), (⟨(⟨#[108, 105, 115, 116]⟩ : ByteArray), 1, 600, (⟨#[]⟩ : ByteArray), 0⟩ : S27), (⟨(⟨#[116, 97, 98, 108, 101]⟩ : ByteArray), 1, 700, (⟨#[]⟩ : ByteArray), 1⟩ : S27), (⟨(⟨#[110, 111, 116, 101]⟩ : ByteArray), 1, 150, (⟨#[]⟩ : ByteArray), 32⟩ : S27), (⟨(⟨#[101, 115, 99, 97, 112, 101]⟩ : ByteArray), 2, 100, (⟨#[92]⟩ : ByteArray), 0⟩ : S27), (⟨(⟨#[101, 110, 116, 105, 116, 121]⟩ : ByteArray), 2, 110, (⟨#[38]⟩ : ByteArray), 0⟩ : S27), (⟨(⟨#[115, 112, 97, 110]⟩ : ByteArray), 2, 120, (⟨#[96]⟩ : ByteArray), 0⟩ : S27), (⟨(⟨#[97, 117, 116, 111]⟩ : ByteArray), 2, 130, (⟨#[60]⟩ : ByteArray), 0⟩ : S27), (⟨(⟨#[114, 97, 119]⟩ : ByteArray), 2, 140, (⟨#[60]⟩ : ByteArray), 0⟩ : S27), (⟨(⟨#[101, 109, 112, 104]⟩ : ByteArray), 2, 200, (⟨#[42, 95]⟩ : ByteArray), 0⟩ : S27), (⟨(⟨#[115, 116, 114, 105, 107, 101]⟩ : ByteArray), 2, 210, (⟨#[126]⟩ : ByteArray), 2⟩ : S27), (⟨(⟨#[108, 105, 110, 107]⟩ : ByteArray), 2, 300, (⟨#[91, 33, 93]⟩ : ByteArray), 0⟩ : S27), (⟨(⟨#[110, 111, 116, 101, 114, 101, 102]⟩ : ByteArray), 2, 290, (⟨#[91]⟩ : ByteArray), 32⟩ : S27), (⟨(⟨#[98, 114, 101, 97, 107]⟩ : ByteArray), 2, 400, (⟨#[10]⟩ : ByteArray), 0⟩ : S27), (⟨(⟨#[116, 97, 115, 107, 115]⟩ : ByteArray), 3, 100, (⟨#[]⟩ : ByteArray), 4⟩ : S27), (⟨(⟨#[117, 114, 108, 115]⟩ : ByteArray), 3, 200, (⟨#[]⟩ : ByteArray), 8⟩ : S27), (⟨(⟨#[110, 111, 116, 101, 115]⟩ : ByteArray), 3, 300, (⟨#[]⟩ : ByteArray), 32⟩ : S27), (⟨(⟨#[115, 108, 117, 103, 115]⟩ : ByteArray), 3, 400, (⟨#[]⟩ : ByteArray), 64⟩ : S27), (⟨(⟨#[104, 116, 109, 108, 45, 111, 117, 116]⟩ : ByteArray), 4, 100, (⟨#[]⟩ : ByteArray), 0⟩ : S27), (⟨(⟨#[102, 105, 108, 116, 101, 114]⟩ : ByteArray), 4, 200, (⟨#[]⟩ : ByteArray), 16⟩ : S27)] : List (S27)))
set_option maxHeartbeats 8000000 in
set_option maxRecDepth 100000 in
theorem registry_Core.calls  (r : List (S27)) (w : World) (h : registry_Core.f  = some r) :
    Calls Try.prog 11 #[] w fun e w' => ∃ v0_ : Value, e = .returned (v0_) ∧ Kd.R k27 27 w' w.heap.size (fun _ => True) v0_ r ∧ Below w.heap.size w w' := by
  have hu27 := Try.underlying27
  have HB := Aside0.mk (Below.refl w.heap.size w)
  have H : (some (([(⟨(⟨#[113, 117, 111, 116, 101]⟩ : ByteArray), 1, 100, (⟨#[]⟩ : ByteArray), 0⟩ : S27), (⟨(⟨#[102, 101, 110, 99, 101]⟩ : ByteArray), 1, 200, (⟨#[]⟩ : ByteArray), 0⟩ : S27), (⟨(⟨#[99, 111, 100, 101]⟩ : ByteArray), 1, 210, (⟨#[]⟩ : ByteArray), 0⟩ : S27), (⟨(⟨#[104, 101, 97, 100, 105, 110, 103]⟩ : ByteArray), 1, 300, (⟨#[]⟩ : ByteArray), 0⟩ : S27), (⟨(⟨#[114, 117, 108, 101]⟩ : ByteArray), 1, 400, (⟨#[]⟩ : ByteArray), 0⟩ : S27), (⟨(⟨#[104, 116, 109, 108]⟩ : ByteArray), 1, 500, (⟨#[]⟩ : ByteArray), 0⟩ : S27), (⟨(⟨#[108, 105, 115, 116]⟩ : ByteArray), 1, 600, (⟨#[]⟩ : ByteArray), 0⟩ : S27), (⟨(⟨#[116, 97, 98, 108, 101]⟩ : ByteArray), 1, 700, (⟨#[]⟩ : ByteArray), 1⟩ : S27), (⟨(⟨#[110, 111, 116, 101]⟩ : ByteArray), 1, 150, (⟨#[]⟩ : ByteArray), 32⟩ : S27), (⟨(⟨#[101, 115, 99, 97, 112, 101]⟩ : ByteArray), 2, 100, (⟨#[92]⟩ : ByteArray), 0⟩ : S27), (⟨(⟨#[101, 110, 116, 105, 116, 121]⟩ : ByteArray), 2, 110, (⟨#[38]⟩ : ByteArray), 0⟩ : S27), (⟨(⟨#[115, 112, 97, 110]⟩ : ByteArray), 2, 120, (⟨#[96]⟩ : ByteArray), 0⟩ : S27), (⟨(⟨#[97, 117, 116, 111]⟩ : ByteArray), 2, 130, (⟨#[60]⟩ : ByteArray), 0⟩ : S27), (⟨(⟨#[114, 97, 119]⟩ : ByteArray), 2, 140, (⟨#[60]⟩ : ByteArray), 0⟩ : S27), (⟨(⟨#[101, 109, 112, 104]⟩ : ByteArray), 2, 200, (⟨#[42, 95]⟩ : ByteArray), 0⟩ : S27), (⟨(⟨#[115, 116, 114, 105, 107, 101]⟩ : ByteArray), 2, 210, (⟨#[126]⟩ : ByteArray), 2⟩ : S27), (⟨(⟨#[108, 105, 110, 107]⟩ : ByteArray), 2, 300, (⟨#[91, 33, 93]⟩ : ByteArray), 0⟩ : S27), (⟨(⟨#[110, 111, 116, 101, 114, 101, 102]⟩ : ByteArray), 2, 290, (⟨#[91]⟩ : ByteArray), 32⟩ : S27), (⟨(⟨#[98, 114, 101, 97, 107]⟩ : ByteArray), 2, 400, (⟨#[10]⟩ : ByteArray), 0⟩ : S27), (⟨(⟨#[116, 97, 115, 107, 115]⟩ : ByteArray), 3, 100, (⟨#[]⟩ : ByteArray), 4⟩ : S27), (⟨(⟨#[117, 114, 108, 115]⟩ : ByteArray), 3, 200, (⟨#[]⟩ : ByteArray), 8⟩ : S27), (⟨(⟨#[110, 111, 116, 101, 115]⟩ : ByteArray), 3, 300, (⟨#[]⟩ : ByteArray), 32⟩ : S27), (⟨(⟨#[115, 108, 117, 103, 115]⟩ : ByteArray), 3, 400, (⟨#[]⟩ : ByteArray), 64⟩ : S27), (⟨(⟨#[104, 116, 109, 108, 45, 111, 117, 116]⟩ : ByteArray), 4, 100, (⟨#[]⟩ : ByteArray), 0⟩ : S27), (⟨(⟨#[102, 105, 108, 116, 101, 114]⟩ : ByteArray), 4, 200, (⟨#[]⟩ : ByteArray), 16⟩ : S27)] : List (S27)))) = some r := h
  clear h
  obtain ⟨y115, hy115⟩ : ∃ y_ : List (S27), y_ = (([(⟨(⟨#[113, 117, 111, 116, 101]⟩ : ByteArray), 1, 100, (⟨#[]⟩ : ByteArray), 0⟩ : S27), (⟨(⟨#[102, 101, 110, 99, 101]⟩ : ByteArray), 1, 200, (⟨#[]⟩ : ByteArray), 0⟩ : S27), (⟨(⟨#[99, 111, 100, 101]⟩ : ByteArray), 1, 210, (⟨#[]⟩ : ByteArray), 0⟩ : S27), (⟨(⟨#[104, 101, 97, 100, 105, 110, 103]⟩ : ByteArray), 1, 300, (⟨#[]⟩ : ByteArray), 0⟩ : S27), (⟨(⟨#[114, 117, 108, 101]⟩ : ByteArray), 1, 400, (⟨#[]⟩ : ByteArray), 0⟩ : S27), (⟨(⟨#[104, 116, 109, 108]⟩ : ByteArray), 1, 500, (⟨#[]⟩ : ByteArray), 0⟩ : S27), (⟨(⟨#[108, 105, 115, 116]⟩ : ByteArray), 1, 600, (⟨#[]⟩ : ByteArray), 0⟩ : S27), (⟨(⟨#[116, 97, 98, 108, 101]⟩ : ByteArray), 1, 700, (⟨#[]⟩ : ByteArray), 1⟩ : S27), (⟨(⟨#[110, 111, 116, 101]⟩ : ByteArray), 1, 150, (⟨#[]⟩ : ByteArray), 32⟩ : S27), (⟨(⟨#[101, 115, 99, 97, 112, 101]⟩ : ByteArray), 2, 100, (⟨#[92]⟩ : ByteArray), 0⟩ : S27), (⟨(⟨#[101, 110, 116, 105, 116, 121]⟩ : ByteArray), 2, 110, (⟨#[38]⟩ : ByteArray), 0⟩ : S27), (⟨(⟨#[115, 112, 97, 110]⟩ : ByteArray), 2, 120, (⟨#[96]⟩ : ByteArray), 0⟩ : S27), (⟨(⟨#[97, 117, 116, 111]⟩ : ByteArray), 2, 130, (⟨#[60]⟩ : ByteArray), 0⟩ : S27), (⟨(⟨#[114, 97, 119]⟩ : ByteArray), 2, 140, (⟨#[60]⟩ : ByteArray), 0⟩ : S27), (⟨(⟨#[101, 109, 112, 104]⟩ : ByteArray), 2, 200, (⟨#[42, 95]⟩ : ByteArray), 0⟩ : S27), (⟨(⟨#[115, 116, 114, 105, 107, 101]⟩ : ByteArray), 2, 210, (⟨#[126]⟩ : ByteArray), 2⟩ : S27), (⟨(⟨#[108, 105, 110, 107]⟩ : ByteArray), 2, 300, (⟨#[91, 33, 93]⟩ : ByteArray), 0⟩ : S27), (⟨(⟨#[110, 111, 116, 101, 114, 101, 102]⟩ : ByteArray), 2, 290, (⟨#[91]⟩ : ByteArray), 32⟩ : S27), (⟨(⟨#[98, 114, 101, 97, 107]⟩ : ByteArray), 2, 400, (⟨#[10]⟩ : ByteArray), 0⟩ : S27), (⟨(⟨#[116, 97, 115, 107, 115]⟩ : ByteArray), 3, 100, (⟨#[]⟩ : ByteArray), 4⟩ : S27), (⟨(⟨#[117, 114, 108, 115]⟩ : ByteArray), 3, 200, (⟨#[]⟩ : ByteArray), 8⟩ : S27), (⟨(⟨#[110, 111, 116, 101, 115]⟩ : ByteArray), 3, 300, (⟨#[]⟩ : ByteArray), 32⟩ : S27), (⟨(⟨#[115, 108, 117, 103, 115]⟩ : ByteArray), 3, 400, (⟨#[]⟩ : ByteArray), 64⟩ : S27), (⟨(⟨#[104, 116, 109, 108, 45, 111, 117, 116]⟩ : ByteArray), 4, 100, (⟨#[]⟩ : ByteArray), 0⟩ : S27), (⟨(⟨#[102, 105, 108, 116, 101, 114]⟩ : ByteArray), 4, 200, (⟨#[]⟩ : ByteArray), 16⟩ : S27)] : List (S27))) := ⟨_, rfl⟩
  replace H : (some y115) = some r := by first | (rw [hy115]; with_reducible exact H) | (have H2_ := (Option.bind_some _ _).symm.trans H; rw [hy115]; with_reducible exact H2_) | (have H2_ := (Option.bind_some _ _).symm.trans H; with_reducible exact H2_) | with_reducible exact H | (rw [hy115]; exact H) | exact H
  have Ny115 := Aside0.mk hy115
  clear hy115
  obtain rfl := Option.some.inj H
  go_enter Try.func11, Try.ntmps11
  go_wp2_with (first | ((with_reducible refine gate_dst (N := 26) rfl ?_); refine Kd.R_lit k27 _ 27 ?hg (N := 26) ?hd (xs := ([(⟨(⟨#[113, 117, 111, 116, 101]⟩ : ByteArray), 1, 100, (⟨#[]⟩ : ByteArray), 0⟩ : S27), (⟨(⟨#[102, 101, 110, 99, 101]⟩ : ByteArray), 1, 200, (⟨#[]⟩ : ByteArray), 0⟩ : S27), (⟨(⟨#[99, 111, 100, 101]⟩ : ByteArray), 1, 210, (⟨#[]⟩ : ByteArray), 0⟩ : S27), (⟨(⟨#[104, 101, 97, 100, 105, 110, 103]⟩ : ByteArray), 1, 300, (⟨#[]⟩ : ByteArray), 0⟩ : S27), (⟨(⟨#[114, 117, 108, 101]⟩ : ByteArray), 1, 400, (⟨#[]⟩ : ByteArray), 0⟩ : S27), (⟨(⟨#[104, 116, 109, 108]⟩ : ByteArray), 1, 500, (⟨#[]⟩ : ByteArray), 0⟩ : S27), (⟨(⟨#[108, 105, 115, 116]⟩ : ByteArray), 1, 600, (⟨#[]⟩ : ByteArray), 0⟩ : S27), (⟨(⟨#[116, 97, 98, 108, 101]⟩ : ByteArray), 1, 700, (⟨#[]⟩ : ByteArray), 1⟩ : S27), (⟨(⟨#[110, 111, 116, 101]⟩ : ByteArray), 1, 150, (⟨#[]⟩ : ByteArray), 32⟩ : S27), (⟨(⟨#[101, 115, 99, 97, 112, 101]⟩ : ByteArray), 2, 100, (⟨#[92]⟩ : ByteArray), 0⟩ : S27), (⟨(⟨#[101, 110, 116, 105, 116, 121]⟩ : ByteArray), 2, 110, (⟨#[38]⟩ : ByteArray), 0⟩ : S27), (⟨(⟨#[115, 112, 97, 110]⟩ : ByteArray), 2, 120, (⟨#[96]⟩ : ByteArray), 0⟩ : S27), (⟨(⟨#[97, 117, 116, 111]⟩ : ByteArray), 2, 130, (⟨#[60]⟩ : ByteArray), 0⟩ : S27), (⟨(⟨#[114, 97, 119]⟩ : ByteArray), 2, 140, (⟨#[60]⟩ : ByteArray), 0⟩ : S27), (⟨(⟨#[101, 109, 112, 104]⟩ : ByteArray), 2, 200, (⟨#[42, 95]⟩ : ByteArray), 0⟩ : S27), (⟨(⟨#[115, 116, 114, 105, 107, 101]⟩ : ByteArray), 2, 210, (⟨#[126]⟩ : ByteArray), 2⟩ : S27), (⟨(⟨#[108, 105, 110, 107]⟩ : ByteArray), 2, 300, (⟨#[91, 33, 93]⟩ : ByteArray), 0⟩ : S27), (⟨(⟨#[110, 111, 116, 101, 114, 101, 102]⟩ : ByteArray), 2, 290, (⟨#[91]⟩ : ByteArray), 32⟩ : S27), (⟨(⟨#[98, 114, 101, 97, 107]⟩ : ByteArray), 2, 400, (⟨#[10]⟩ : ByteArray), 0⟩ : S27), (⟨(⟨#[116, 97, 115, 107, 115]⟩ : ByteArray), 3, 100, (⟨#[]⟩ : ByteArray), 4⟩ : S27), (⟨(⟨#[117, 114, 108, 115]⟩ : ByteArray), 3, 200, (⟨#[]⟩ : ByteArray), 8⟩ : S27), (⟨(⟨#[110, 111, 116, 101, 115]⟩ : ByteArray), 3, 300, (⟨#[]⟩ : ByteArray), 32⟩ : S27), (⟨(⟨#[115, 108, 117, 103, 115]⟩ : ByteArray), 3, 400, (⟨#[]⟩ : ByteArray), 64⟩ : S27), (⟨(⟨#[104, 116, 109, 108, 45, 111, 117, 116]⟩ : ByteArray), 4, 100, (⟨#[]⟩ : ByteArray), 0⟩ : S27), (⟨(⟨#[102, 105, 108, 116, 101, 114]⟩ : ByteArray), 4, 200, (⟨#[]⟩ : ByteArray), 16⟩ : S27)] : List (S27))) (inner := [.string (⟨#[113, 117, 111, 116, 101]⟩ : ByteArray), .int .i64 1, .int .i64 100, .string (⟨#[]⟩ : ByteArray), .int .i64 0, .string (⟨#[102, 101, 110, 99, 101]⟩ : ByteArray), .int .i64 1, .int .i64 200, .string (⟨#[]⟩ : ByteArray), .int .i64 0, .string (⟨#[99, 111, 100, 101]⟩ : ByteArray), .int .i64 1, .int .i64 210, .string (⟨#[]⟩ : ByteArray), .int .i64 0, .string (⟨#[104, 101, 97, 100, 105, 110, 103]⟩ : ByteArray), .int .i64 1, .int .i64 300, .string (⟨#[]⟩ : ByteArray), .int .i64 0, .string (⟨#[114, 117, 108, 101]⟩ : ByteArray), .int .i64 1, .int .i64 400, .string (⟨#[]⟩ : ByteArray), .int .i64 0, .string (⟨#[104, 116, 109, 108]⟩ : ByteArray), .int .i64 1, .int .i64 500, .string (⟨#[]⟩ : ByteArray), .int .i64 0, .string (⟨#[108, 105, 115, 116]⟩ : ByteArray), .int .i64 1, .int .i64 600, .string (⟨#[]⟩ : ByteArray), .int .i64 0, .string (⟨#[116, 97, 98, 108, 101]⟩ : ByteArray), .int .i64 1, .int .i64 700, .string (⟨#[]⟩ : ByteArray), .int .i64 1, .string (⟨#[110, 111, 116, 101]⟩ : ByteArray), .int .i64 1, .int .i64 150, .string (⟨#[]⟩ : ByteArray), .int .i64 32, .string (⟨#[101, 115, 99, 97, 112, 101]⟩ : ByteArray), .int .i64 2, .int .i64 100, .string (⟨#[92]⟩ : ByteArray), .int .i64 0, .string (⟨#[101, 110, 116, 105, 116, 121]⟩ : ByteArray), .int .i64 2, .int .i64 110, .string (⟨#[38]⟩ : ByteArray), .int .i64 0, .string (⟨#[115, 112, 97, 110]⟩ : ByteArray), .int .i64 2, .int .i64 120, .string (⟨#[96]⟩ : ByteArray), .int .i64 0, .string (⟨#[97, 117, 116, 111]⟩ : ByteArray), .int .i64 2, .int .i64 130, .string (⟨#[60]⟩ : ByteArray), .int .i64 0, .string (⟨#[114, 97, 119]⟩ : ByteArray), .int .i64 2, .int .i64 140, .string (⟨#[60]⟩ : ByteArray), .int .i64 0, .string (⟨#[101, 109, 112, 104]⟩ : ByteArray), .int .i64 2, .int .i64 200, .string (⟨#[42, 95]⟩ : ByteArray), .int .i64 0, .string (⟨#[115, 116, 114, 105, 107, 101]⟩ : ByteArray), .int .i64 2, .int .i64 210, .string (⟨#[126]⟩ : ByteArray), .int .i64 2, .string (⟨#[108, 105, 110, 107]⟩ : ByteArray), .int .i64 2, .int .i64 300, .string (⟨#[91, 33, 93]⟩ : ByteArray), .int .i64 0, .string (⟨#[110, 111, 116, 101, 114, 101, 102]⟩ : ByteArray), .int .i64 2, .int .i64 290, .string (⟨#[91]⟩ : ByteArray), .int .i64 32, .string (⟨#[98, 114, 101, 97, 107]⟩ : ByteArray), .int .i64 2, .int .i64 400, .string (⟨#[10]⟩ : ByteArray), .int .i64 0, .string (⟨#[116, 97, 115, 107, 115]⟩ : ByteArray), .int .i64 3, .int .i64 100, .string (⟨#[]⟩ : ByteArray), .int .i64 4, .string (⟨#[117, 114, 108, 115]⟩ : ByteArray), .int .i64 3, .int .i64 200, .string (⟨#[]⟩ : ByteArray), .int .i64 8, .string (⟨#[110, 111, 116, 101, 115]⟩ : ByteArray), .int .i64 3, .int .i64 300, .string (⟨#[]⟩ : ByteArray), .int .i64 32, .string (⟨#[115, 108, 117, 103, 115]⟩ : ByteArray), .int .i64 3, .int .i64 400, .string (⟨#[]⟩ : ByteArray), .int .i64 64, .string (⟨#[104, 116, 109, 108, 45, 111, 117, 116]⟩ : ByteArray), .int .i64 4, .int .i64 100, .string (⟨#[]⟩ : ByteArray), .int .i64 0, .string (⟨#[102, 105, 108, 116, 101, 114]⟩ : ByteArray), .int .i64 4, .int .i64 200, .string (⟨#[]⟩ : ByteArray), .int .i64 16]) (ok := fun _ => True) (okp := fun _ => True) ?hr ?hp (fun _ hk => hk) trivial (Below.refl _ _) (Nat.le_refl _) (by simp) ?_; (case hd => rfl); (case hg => rfl); (case hr => first | (go_simp; done) | (go_simp; rfl)); (case hp => exact (Reps.c5 (show Kd.M k27 _ _ _ (⟨(⟨#[113, 117, 111, 116, 101]⟩ : ByteArray), 1, 100, (⟨#[]⟩ : ByteArray), 0⟩ : S27) [.string (⟨#[113, 117, 111, 116, 101]⟩ : ByteArray), .int .i64 1, .int .i64 100, .string (⟨#[]⟩ : ByteArray), .int .i64 0] from (k27_mkM _ _ _ (⟨(⟨#[113, 117, 111, 116, 101]⟩ : ByteArray), 1, 100, (⟨#[]⟩ : ByteArray), 0⟩ : S27) )) (Reps.c5 (show Kd.M k27 _ _ _ (⟨(⟨#[102, 101, 110, 99, 101]⟩ : ByteArray), 1, 200, (⟨#[]⟩ : ByteArray), 0⟩ : S27) [.string (⟨#[102, 101, 110, 99, 101]⟩ : ByteArray), .int .i64 1, .int .i64 200, .string (⟨#[]⟩ : ByteArray), .int .i64 0] from (k27_mkM _ _ _ (⟨(⟨#[102, 101, 110, 99, 101]⟩ : ByteArray), 1, 200, (⟨#[]⟩ : ByteArray), 0⟩ : S27) )) (Reps.c5 (show Kd.M k27 _ _ _ (⟨(⟨#[99, 111, 100, 101]⟩ : ByteArray), 1, 210, (⟨#[]⟩ : ByteArray), 0⟩ : S27) [.string (⟨#[99, 111, 100, 101]⟩ : ByteArray), .int .i64 1, .int .i64 210, .string (⟨#[]⟩ : ByteArray), .int .i64 0] from (k27_mkM _ _ _ (⟨(⟨#[99, 111, 100, 101]⟩ : ByteArray), 1, 210, (⟨#[]⟩ : ByteArray), 0⟩ : S27) )) (Reps.c5 (show Kd.M k27 _ _ _ (⟨(⟨#[104, 101, 97, 100, 105, 110, 103]⟩ : ByteArray), 1, 300, (⟨#[]⟩ : ByteArray), 0⟩ : S27) [.string (⟨#[104, 101, 97, 100, 105, 110, 103]⟩ : ByteArray), .int .i64 1, .int .i64 300, .string (⟨#[]⟩ : ByteArray), .int .i64 0] from (k27_mkM _ _ _ (⟨(⟨#[104, 101, 97, 100, 105, 110, 103]⟩ : ByteArray), 1, 300, (⟨#[]⟩ : ByteArray), 0⟩ : S27) )) (Reps.c5 (show Kd.M k27 _ _ _ (⟨(⟨#[114, 117, 108, 101]⟩ : ByteArray), 1, 400, (⟨#[]⟩ : ByteArray), 0⟩ : S27) [.string (⟨#[114, 117, 108, 101]⟩ : ByteArray), .int .i64 1, .int .i64 400, .string (⟨#[]⟩ : ByteArray), .int .i64 0] from (k27_mkM _ _ _ (⟨(⟨#[114, 117, 108, 101]⟩ : ByteArray), 1, 400, (⟨#[]⟩ : ByteArray), 0⟩ : S27) )) (Reps.c5 (show Kd.M k27 _ _ _ (⟨(⟨#[104, 116, 109, 108]⟩ : ByteArray), 1, 500, (⟨#[]⟩ : ByteArray), 0⟩ : S27) [.string (⟨#[104, 116, 109, 108]⟩ : ByteArray), .int .i64 1, .int .i64 500, .string (⟨#[]⟩ : ByteArray), .int .i64 0] from (k27_mkM _ _ _ (⟨(⟨#[104, 116, 109, 108]⟩ : ByteArray), 1, 500, (⟨#[]⟩ : ByteArray), 0⟩ : S27) )) (Reps.c5 (show Kd.M k27 _ _ _ (⟨(⟨#[108, 105, 115, 116]⟩ : ByteArray), 1, 600, (⟨#[]⟩ : ByteArray), 0⟩ : S27) [.string (⟨#[108, 105, 115, 116]⟩ : ByteArray), .int .i64 1, .int .i64 600, .string (⟨#[]⟩ : ByteArray), .int .i64 0] from (k27_mkM _ _ _ (⟨(⟨#[108, 105, 115, 116]⟩ : ByteArray), 1, 600, (⟨#[]⟩ : ByteArray), 0⟩ : S27) )) (Reps.c5 (show Kd.M k27 _ _ _ (⟨(⟨#[116, 97, 98, 108, 101]⟩ : ByteArray), 1, 700, (⟨#[]⟩ : ByteArray), 1⟩ : S27) [.string (⟨#[116, 97, 98, 108, 101]⟩ : ByteArray), .int .i64 1, .int .i64 700, .string (⟨#[]⟩ : ByteArray), .int .i64 1] from (k27_mkM _ _ _ (⟨(⟨#[116, 97, 98, 108, 101]⟩ : ByteArray), 1, 700, (⟨#[]⟩ : ByteArray), 1⟩ : S27) )) (Reps.c5 (show Kd.M k27 _ _ _ (⟨(⟨#[110, 111, 116, 101]⟩ : ByteArray), 1, 150, (⟨#[]⟩ : ByteArray), 32⟩ : S27) [.string (⟨#[110, 111, 116, 101]⟩ : ByteArray), .int .i64 1, .int .i64 150, .string (⟨#[]⟩ : ByteArray), .int .i64 32] from (k27_mkM _ _ _ (⟨(⟨#[110, 111, 116, 101]⟩ : ByteArray), 1, 150, (⟨#[]⟩ : ByteArray), 32⟩ : S27) )) (Reps.c5 (show Kd.M k27 _ _ _ (⟨(⟨#[101, 115, 99, 97, 112, 101]⟩ : ByteArray), 2, 100, (⟨#[92]⟩ : ByteArray), 0⟩ : S27) [.string (⟨#[101, 115, 99, 97, 112, 101]⟩ : ByteArray), .int .i64 2, .int .i64 100, .string (⟨#[92]⟩ : ByteArray), .int .i64 0] from (k27_mkM _ _ _ (⟨(⟨#[101, 115, 99, 97, 112, 101]⟩ : ByteArray), 2, 100, (⟨#[92]⟩ : ByteArray), 0⟩ : S27) )) (Reps.c5 (show Kd.M k27 _ _ _ (⟨(⟨#[101, 110, 116, 105, 116, 121]⟩ : ByteArray), 2, 110, (⟨#[38]⟩ : ByteArray), 0⟩ : S27) [.string (⟨#[101, 110, 116, 105, 116, 121]⟩ : ByteArray), .int .i64 2, .int .i64 110, .string (⟨#[38]⟩ : ByteArray), .int .i64 0] from (k27_mkM _ _ _ (⟨(⟨#[101, 110, 116, 105, 116, 121]⟩ : ByteArray), 2, 110, (⟨#[38]⟩ : ByteArray), 0⟩ : S27) )) (Reps.c5 (show Kd.M k27 _ _ _ (⟨(⟨#[115, 112, 97, 110]⟩ : ByteArray), 2, 120, (⟨#[96]⟩ : ByteArray), 0⟩ : S27) [.string (⟨#[115, 112, 97, 110]⟩ : ByteArray), .int .i64 2, .int .i64 120, .string (⟨#[96]⟩ : ByteArray), .int .i64 0] from (k27_mkM _ _ _ (⟨(⟨#[115, 112, 97, 110]⟩ : ByteArray), 2, 120, (⟨#[96]⟩ : ByteArray), 0⟩ : S27) )) (Reps.c5 (show Kd.M k27 _ _ _ (⟨(⟨#[97, 117, 116, 111]⟩ : ByteArray), 2, 130, (⟨#[60]⟩ : ByteArray), 0⟩ : S27) [.string (⟨#[97, 117, 116, 111]⟩ : ByteArray), .int .i64 2, .int .i64 130, .string (⟨#[60]⟩ : ByteArray), .int .i64 0] from (k27_mkM _ _ _ (⟨(⟨#[97, 117, 116, 111]⟩ : ByteArray), 2, 130, (⟨#[60]⟩ : ByteArray), 0⟩ : S27) )) (Reps.c5 (show Kd.M k27 _ _ _ (⟨(⟨#[114, 97, 119]⟩ : ByteArray), 2, 140, (⟨#[60]⟩ : ByteArray), 0⟩ : S27) [.string (⟨#[114, 97, 119]⟩ : ByteArray), .int .i64 2, .int .i64 140, .string (⟨#[60]⟩ : ByteArray), .int .i64 0] from (k27_mkM _ _ _ (⟨(⟨#[114, 97, 119]⟩ : ByteArray), 2, 140, (⟨#[60]⟩ : ByteArray), 0⟩ : S27) )) (Reps.c5 (show Kd.M k27 _ _ _ (⟨(⟨#[101, 109, 112, 104]⟩ : ByteArray), 2, 200, (⟨#[42, 95]⟩ : ByteArray), 0⟩ : S27) [.string (⟨#[101, 109, 112, 104]⟩ : ByteArray), .int .i64 2, .int .i64 200, .string (⟨#[42, 95]⟩ : ByteArray), .int .i64 0] from (k27_mkM _ _ _ (⟨(⟨#[101, 109, 112, 104]⟩ : ByteArray), 2, 200, (⟨#[42, 95]⟩ : ByteArray), 0⟩ : S27) )) (Reps.c5 (show Kd.M k27 _ _ _ (⟨(⟨#[115, 116, 114, 105, 107, 101]⟩ : ByteArray), 2, 210, (⟨#[126]⟩ : ByteArray), 2⟩ : S27) [.string (⟨#[115, 116, 114, 105, 107, 101]⟩ : ByteArray), .int .i64 2, .int .i64 210, .string (⟨#[126]⟩ : ByteArray), .int .i64 2] from (k27_mkM _ _ _ (⟨(⟨#[115, 116, 114, 105, 107, 101]⟩ : ByteArray), 2, 210, (⟨#[126]⟩ : ByteArray), 2⟩ : S27) )) (Reps.c5 (show Kd.M k27 _ _ _ (⟨(⟨#[108, 105, 110, 107]⟩ : ByteArray), 2, 300, (⟨#[91, 33, 93]⟩ : ByteArray), 0⟩ : S27) [.string (⟨#[108, 105, 110, 107]⟩ : ByteArray), .int .i64 2, .int .i64 300, .string (⟨#[91, 33, 93]⟩ : ByteArray), .int .i64 0] from (k27_mkM _ _ _ (⟨(⟨#[108, 105, 110, 107]⟩ : ByteArray), 2, 300, (⟨#[91, 33, 93]⟩ : ByteArray), 0⟩ : S27) )) (Reps.c5 (show Kd.M k27 _ _ _ (⟨(⟨#[110, 111, 116, 101, 114, 101, 102]⟩ : ByteArray), 2, 290, (⟨#[91]⟩ : ByteArray), 32⟩ : S27) [.string (⟨#[110, 111, 116, 101, 114, 101, 102]⟩ : ByteArray), .int .i64 2, .int .i64 290, .string (⟨#[91]⟩ : ByteArray), .int .i64 32] from (k27_mkM _ _ _ (⟨(⟨#[110, 111, 116, 101, 114, 101, 102]⟩ : ByteArray), 2, 290, (⟨#[91]⟩ : ByteArray), 32⟩ : S27) )) (Reps.c5 (show Kd.M k27 _ _ _ (⟨(⟨#[98, 114, 101, 97, 107]⟩ : ByteArray), 2, 400, (⟨#[10]⟩ : ByteArray), 0⟩ : S27) [.string (⟨#[98, 114, 101, 97, 107]⟩ : ByteArray), .int .i64 2, .int .i64 400, .string (⟨#[10]⟩ : ByteArray), .int .i64 0] from (k27_mkM _ _ _ (⟨(⟨#[98, 114, 101, 97, 107]⟩ : ByteArray), 2, 400, (⟨#[10]⟩ : ByteArray), 0⟩ : S27) )) (Reps.c5 (show Kd.M k27 _ _ _ (⟨(⟨#[116, 97, 115, 107, 115]⟩ : ByteArray), 3, 100, (⟨#[]⟩ : ByteArray), 4⟩ : S27) [.string (⟨#[116, 97, 115, 107, 115]⟩ : ByteArray), .int .i64 3, .int .i64 100, .string (⟨#[]⟩ : ByteArray), .int .i64 4] from (k27_mkM _ _ _ (⟨(⟨#[116, 97, 115, 107, 115]⟩ : ByteArray), 3, 100, (⟨#[]⟩ : ByteArray), 4⟩ : S27) )) (Reps.c5 (show Kd.M k27 _ _ _ (⟨(⟨#[117, 114, 108, 115]⟩ : ByteArray), 3, 200, (⟨#[]⟩ : ByteArray), 8⟩ : S27) [.string (⟨#[117, 114, 108, 115]⟩ : ByteArray), .int .i64 3, .int .i64 200, .string (⟨#[]⟩ : ByteArray), .int .i64 8] from (k27_mkM _ _ _ (⟨(⟨#[117, 114, 108, 115]⟩ : ByteArray), 3, 200, (⟨#[]⟩ : ByteArray), 8⟩ : S27) )) (Reps.c5 (show Kd.M k27 _ _ _ (⟨(⟨#[110, 111, 116, 101, 115]⟩ : ByteArray), 3, 300, (⟨#[]⟩ : ByteArray), 32⟩ : S27) [.string (⟨#[110, 111, 116, 101, 115]⟩ : ByteArray), .int .i64 3, .int .i64 300, .string (⟨#[]⟩ : ByteArray), .int .i64 32] from (k27_mkM _ _ _ (⟨(⟨#[110, 111, 116, 101, 115]⟩ : ByteArray), 3, 300, (⟨#[]⟩ : ByteArray), 32⟩ : S27) )) (Reps.c5 (show Kd.M k27 _ _ _ (⟨(⟨#[115, 108, 117, 103, 115]⟩ : ByteArray), 3, 400, (⟨#[]⟩ : ByteArray), 64⟩ : S27) [.string (⟨#[115, 108, 117, 103, 115]⟩ : ByteArray), .int .i64 3, .int .i64 400, .string (⟨#[]⟩ : ByteArray), .int .i64 64] from (k27_mkM _ _ _ (⟨(⟨#[115, 108, 117, 103, 115]⟩ : ByteArray), 3, 400, (⟨#[]⟩ : ByteArray), 64⟩ : S27) )) (Reps.c5 (show Kd.M k27 _ _ _ (⟨(⟨#[104, 116, 109, 108, 45, 111, 117, 116]⟩ : ByteArray), 4, 100, (⟨#[]⟩ : ByteArray), 0⟩ : S27) [.string (⟨#[104, 116, 109, 108, 45, 111, 117, 116]⟩ : ByteArray), .int .i64 4, .int .i64 100, .string (⟨#[]⟩ : ByteArray), .int .i64 0] from (k27_mkM _ _ _ (⟨(⟨#[104, 116, 109, 108, 45, 111, 117, 116]⟩ : ByteArray), 4, 100, (⟨#[]⟩ : ByteArray), 0⟩ : S27) )) (Reps.c5 (show Kd.M k27 _ _ _ (⟨(⟨#[102, 105, 108, 116, 101, 114]⟩ : ByteArray), 4, 200, (⟨#[]⟩ : ByteArray), 16⟩ : S27) [.string (⟨#[102, 105, 108, 116, 101, 114]⟩ : ByteArray), .int .i64 4, .int .i64 200, .string (⟨#[]⟩ : ByteArray), .int .i64 16] from (k27_mkM _ _ _ (⟨(⟨#[102, 105, 108, 116, 101, 114]⟩ : ByteArray), 4, 200, (⟨#[]⟩ : ByteArray), 16⟩ : S27) )) (Reps.none _ _))))))))))))))))))))))))))); intro v116 w1 ho2 hb hg_ hnew_; clear hg_ hnew_; (first | rw [← Ny115.out] at ho2 | (simp only [Int.reduceToNat] at ho2; rw [← Ny115.out] at ho2)); have n0_ := Aside0.mk (Kd.R_lower ho2 (below_size (by repeat (first | (with_reducible first | exact HB.out | apply below_alloc | apply pw_below_drewN | apply below_drew1) | exact HB.out)))); have n1_ := Aside0.mk (below_step (by repeat (first | (with_reducible first | exact HB.out | apply below_alloc | apply pw_below_drewN | apply below_drew1) | exact HB.out)) hb); clear HB; have HO117 := n0_; have HB := n1_; clear n0_ n1_; clear hb ho2))
  go_ret
  exact ⟨_, by first | rfl | (simp [errW_none, errW_some] <;> rfl) | (simp [*, errW_none, errW_some] <;> rfl), by (with_reducible repeat (first | apply Kd.R_alloc | apply Kd.R_drewN | apply Kd.R_drew)); exact HO117.out, by repeat (first | (with_reducible first | exact HB.out | apply below_alloc | apply pw_below_drewN | apply below_drew1) | exact HB.out)⟩

end Go.Proofs.Ytfhgdjajifnfiaa.PA

namespace Go.Proofs.Ytfhgdjajifnfiaa.PA
open Go.RowKit Go.Maps Go.ChangeMaps Go.WideShapes Go.WideMaps Go.Proofs.YtfhgdjajifnfiaaW.PrintWords Go.Proofs.YtfhgdjajifnfiaaW.PrintLast Go.Proofs.YtfhgdjajifnfiaaW.PrintMore
set_option linter.unusedVariables false

/-- A hook as a value; as a map's element. -/
abbrev hv (h : S27) : Value := .agg #[.string h.f0, .int .i64 h.f1, .int .i64 h.f2, .string h.f3, .int .i64 h.f4]
abbrev hcs (h : S27) : List Value := [.string h.f0, .int .i64 h.f1, .int .i64 h.f2, .string h.f3, .int .i64 h.f4]
def hookD (h : S27) : DataW Unit := .agg [.lit (.string h.f0.data.toList), .lit (.int .i64 h.f1), .lit (.int .i64 h.f2), .lit (.string h.f3.data.toList), .lit (.int .i64 h.f4)]
def hookR : Value → Option (DataW Unit × List MemPlace)
  | .agg cs => match cs.toList with
    | [.string a, .int q1 b, .int q2 c, .string d, .int q3 e] => if q1 = .i64 ∧ q2 = .i64 ∧ q3 = .i64 then some (hookD ⟨a, b, c, d, e⟩, []) else none
    | _ => none
  | _ => none
theorem hookR_mk (h : S27) : hookR (hv h) = some (hookD h, []) := rfl
theorem hookR_inv {v : Value} {y : DataW Unit × List MemPlace} (hy : hookR v = some y) : ∃ h, v = hv h ∧ y = (hookD h, []) := by
  unfold hookR at hy
  split at hy
  · rename_i cs
    split at hy
    · rename_i a q1 b q2 c d q3 e he
      split at hy
      · rename_i hq
        obtain ⟨rfl, rfl, rfl⟩ := hq
        cases hy
        refine ⟨⟨a, b, c, d, e⟩, ?_, rfl⟩
        rw [← Array.toArray_toList (xs := cs), he]
      · cases hy
    · cases hy
  · cases hy
theorem bytes_inj {a b : ByteArray} (h : a.data.toList = b.data.toList) : a = b := by
  cases a; cases b
  simp at h
  rw [h]
theorem hookD_inj {h h' : S27} (e : hookD h = hookD h') : h = h' := by
  unfold hookD at e
  injection e with e
  simp at e
  obtain ⟨e0, e1, e2, e3, e4⟩ := e
  cases h; cases h'
  simp at e0 e1 e2 e3 e4
  rw [ByteArray.ext e0, ByteArray.ext e3, e1, e2, e4]
abbrev keyL (h : S27) : Lit := .string h.f0.data.toList
def entsL (L : List S27) : List (Lit × DataW Unit) := L.map fun h => (keyL h, hookD h)
def mapD (L : List S27) : DataW Unit := .map ((entsL L).foldr DataW.insert [])
/-- No name twice, none too long. -/
structure Uniq (L : List S27) : Prop where
  ne : L.Pairwise fun x y => x.f0 ≠ y.f0
  le : ∀ h ∈ L, h.f0.size ≤ maxLen
theorem keyOf_name (h : S27) (hl : h.f0.size ≤ maxLen) : keyOf Try.prog 9 (.string h.f0) = some (keyL h) := keyOf_string_mk Try.underlying9 hl
theorem Uniq.keys {L : List S27} (U : Uniq L) : Keys (KeysOf Try.prog 9) (entsL L) := by
  intro p hp
  obtain ⟨h, hh, rfl⟩ := List.mem_map.1 hp
  exact ⟨_, keyOf_name h (U.le h hh)⟩
theorem Uniq.apart {L : List S27} (U : Uniq L) : (entsL L).Pairwise fun p q => p.1 ≠ q.1 := by
  refine List.pairwise_map.2 (U.ne.imp fun {x y} hne e => hne ?_)
  injection e with e
  exact bytes_inj e
theorem has_mapD (L : List S27) (n : ByteArray) : Maps.has (mapD L) (.string n.data.toList) = L.any fun x => decide (x.f0 = n) := by
  unfold mapD
  rw [has_eq, Bool.eq_iff_iff, List.any_eq_true, List.any_eq_true]
  constructor
  · rintro ⟨p, hp, hs⟩
    obtain ⟨h, hh, rfl⟩ := List.mem_map.1 (mem_sorted.1 hp)
    refine ⟨h, hh, decide_eq_true ?_⟩
    exact bytes_inj (by simpa [Lit.sameKey] using hs)
  · rintro ⟨h, hh, hs⟩
    refine ⟨(keyL h, hookD h), mem_sorted.2 (List.mem_map.2 ⟨h, hh, rfl⟩), ?_⟩
    have e := of_decide_eq_true hs
    simp [Lit.sameKey, e]
theorem put_mapD {L : List S27} (U : Uniq L) (h : S27) (hl : h.f0.size ≤ maxLen) (hn : ∀ x ∈ L, x.f0 ≠ h.f0) : (mapD L).put (keyL h) (hookD h) = mapD (L ++ [h]) := by
  unfold mapD
  rw [DataW.put_eq]
  refine congrArg DataW.map ?_
  refine (sorted_put (string_keyed Try.underlying9).one ⟨_, keyOf_name h hl⟩ U.keys U.apart ?_).symm
  have e : (entsL L).filter (notKey (keyL h)) = entsL L := by
    refine List.filter_eq_self.2 fun p hp => ?_
    obtain ⟨x, hx, rfl⟩ := List.mem_map.1 hp
    refine (notKey_iff ((string_keyed Try.underlying9).key (keyOf_name h hl))).2 fun e => hn x hx ?_
    injection e with e
    exact bytes_inj e
  rw [e]
  unfold entsL
  rw [List.map_append]
  exact List.perm_append_comm
theorem Uniq.snoc {L : List S27} (U : Uniq L) (h : S27) (hl : h.f0.size ≤ maxLen) (hn : ∀ x ∈ L, x.f0 ≠ h.f0) : Uniq (L ++ [h]) where
  ne := List.pairwise_append.2 ⟨U.ne, List.pairwise_singleton _ _, fun x hx y hy => by rw [List.mem_singleton.1 hy]; exact hn x hx⟩
  le := fun x hx => by
    rcases List.mem_append.1 hx with h1 | h1
    · exact U.le x h1
    · rw [List.mem_singleton.1 h1]; exact hl
/-- Nothing that was there has turned, but for the blocks of F. -/
structure Only (F : Nat → Prop) (w w' : World) : Prop where
  os : w'.os = w.os
  tape : w'.tape = w.tape
  output : w'.output = w.output
  size : w.heap.size ≤ w'.heap.size
  block : ∀ j, j < w.heap.size → ¬ F j → w'.heap[j]? = w.heap[j]?
section
variable {F G : Nat → Prop} {w w' w'' : World}
theorem Only.refl (F : Nat → Prop) (w : World) : Only F w w := ⟨rfl, rfl, rfl, Nat.le_refl _, fun _ _ _ => rfl⟩
theorem Only.trans (h : Only F w w') (k : Only F w' w'') : Only F w w'' := ⟨k.os.trans h.os, k.tape.trans h.tape, k.output.trans h.output, Nat.le_trans h.size k.size, fun j hj hf => (k.block j (Nat.lt_of_lt_of_le hj h.size) hf).trans (h.block j hj hf)⟩
theorem Only.imp (h : Only F w w') (hf : ∀ j, j < w.heap.size → F j → G j) : Only G w w' := ⟨h.os, h.tape, h.output, h.size, fun j hj hg => h.block j hj fun x => hg (hf j hj x)⟩
theorem Only.below {B : Nat} (h : Only F w w') (hB : B ≤ w.heap.size) (hf : ∀ j, F j → B ≤ j) : Below B w w' := ⟨h.os, h.tape, h.output, h.size, fun j hj => h.block j (by omega) fun x => by have := hf j x; omega⟩
theorem Below.only {B : Nat} (h : Below B w w') (hf : ∀ j, B ≤ j → j < w.heap.size → F j) : Only F w w' := ⟨h.os, h.tape, h.output, h.size, fun j hj hn => h.block j (Nat.lt_of_not_le fun x => hn (hf j x hj))⟩
theorem Only.drew (h : Only F w w') : Only F w w'.drew := ⟨h.os, h.tape, h.output, h.size, h.block⟩
theorem Only.grown {row : Option Nat} (h : w.grownBy w' row) (hr : ∀ j, row = some j → j < w.heap.size → F j) : Only F w w' := ⟨h.os, h.tape, h.output, h.size, fun j hj hn => h.block j hj fun e => hn (hr j e.symm hj)⟩
end
theorem block_add (ad : Addr) (n : Nat) : (ad.add n).block = ad.block := by
  unfold Addr.add
  split <;> rfl
/-- A row of hooks reads as l. -/
def Row (w : World) (A : Option Addr) (l : List S27) : Prop := Kd.C k27 w A l.length l
theorem Row.keep {w w' : World} {A : Option Addr} {l : List S27} (h : Row w A l) (hk : ∀ a, A = some a → w'.heap[a.block]? = w.heap[a.block]?) : Row w' A l := by
  refine ⟨h.1, h.2.1, fun hl => ?_⟩
  obtain ⟨ad, e, hc⟩ := h.2.2 hl
  refine ⟨ad, e, fun j p hp => ?_⟩
  obtain ⟨c, h1, h2, h3⟩ := hc j p hp
  have e2 := k27_open h2
  refine ⟨c, h1, e2 ▸ k27_mk w' p, fun i u hu => (World.cell?_of_block (w := w) (a := ad.add (j * k27.sz + i)) (by rw [block_add]; exact hk ad e)).trans (h3 i u hu)⟩
theorem Row.nil (w : World) (A : Option Addr) : Row w A [] := ⟨rfl, by simp, fun h => by simp at h⟩
/-- The registry in block b: its mask m, its hooks L (map mb), sealed or not, its sorted row, its steps. -/
structure Reg (b mb : Nat) (A : Option Addr) (m : Int) (L : List S27) (sl : Bool) (so : List S27) (st : Int) (w : World) : Prop where
  lt : b < w.heap.size
  fz : ∀ j, w.frozen? ⟨b, j, none⟩ = false
  c0 : w.cell? ⟨b, 0, none⟩ = some (.int .i64 m)
  c1 : w.cell? ⟨b, 1, none⟩ = some (.map (some mb))
  mp : w.ownsMap Try.prog 9 hookR mb L.length (mapD L)
  uq : Uniq L
  c2 : w.cell? ⟨b, 2, none⟩ = some (.int .u32 (if sl then 1 else 0))
  c3 : w.cell? ⟨b, 3, none⟩ = some (.int .i32 0)
  c5 : w.cell? ⟨b, 5, none⟩ = some (.bool sl)
  c6 : ∃ c, w.cell? ⟨b, 6, none⟩ = some (.slice A so.length c) ∧ so.length ≤ c
  ro : Row w A so
  un : sl = false → w.cell? ⟨b, 6, none⟩ = some (.slice none 0 0)
  c7 : w.cell? ⟨b, 7, none⟩ = some (.int .i64 st)
  ne : mb ≠ b
  na : ∀ a, A = some a → a.block < w.heap.size ∧ a.block ≠ b ∧ a.block ≠ mb
/-- The registry's blocks. -/
def Own3 (b mb : Nat) (A : Option Addr) (j : Nat) : Prop := j = b ∨ j = mb ∨ ∃ a, A = some a ∧ j = a.block
section
variable {b mb : Nat} {A : Option Addr} {m : Int} {L : List S27} {sl : Bool} {so : List S27} {st : Int} {w w' : World}
theorem ownsMap_keep {n : Nat} {D : DataW Unit} (h : w.ownsMap Try.prog 9 hookR mb n D) (hk : w'.heap[mb]? = w.heap[mb]?) : w'.ownsMap Try.prog 9 hookR mb n D := by
  obtain ⟨es, clock, hb, r⟩ := h
  exact ⟨es, clock, hk.trans hb, r⟩
theorem Reg.keep (h : Reg b mb A m L sl so st w) (hs : w.heap.size ≤ w'.heap.size) (hk : ∀ j, Own3 b mb A j → w'.heap[j]? = w.heap[j]?) : Reg b mb A m L sl so st w' := by
  have kb : ∀ i, w'.cell? ⟨b, i, none⟩ = w.cell? ⟨b, i, none⟩ := fun i => World.cell?_of_block (w := w) (a := ⟨b, i, none⟩) (hk b (.inl rfl))
  have fb : ∀ i, w'.frozen? ⟨b, i, none⟩ = w.frozen? ⟨b, i, none⟩ := fun i => World.frozen?_of_block (w := w) (a := ⟨b, i, none⟩) (hk b (.inl rfl))
  have h1 := h.lt
  exact { lt := by omega, fz := fun j => (fb j).trans (h.fz j), c0 := (kb 0).trans h.c0, c1 := (kb 1).trans h.c1, mp := ownsMap_keep h.mp (hk mb (.inr (.inl rfl))), uq := h.uq, c2 := (kb 2).trans h.c2, c3 := (kb 3).trans h.c3, c5 := (kb 5).trans h.c5,
          c6 := (by obtain ⟨c, e, hc⟩ := h.c6; exact ⟨c, (kb 6).trans e, hc⟩), ro := h.ro.keep fun a ha => hk a.block (.inr (.inr ⟨a, ha, rfl⟩)), un := fun x => (kb 6).trans (h.un x), c7 := (kb 7).trans h.c7, ne := h.ne, na := fun a ha => by have := h.na a ha; omega }
theorem Reg.keep_only {F : Nat → Prop} (h : Reg b mb A m L sl so st w) (ho : Only F w w') (hf : ∀ j, Own3 b mb A j → ¬ F j) : Reg b mb A m L sl so st w' := by
  refine h.keep ho.size fun j hj => ho.block j ?_ (hf j hj)
  rcases hj with rfl | rfl | ⟨a, ha, rfl⟩
  · exact h.lt
  · exact h.mp.lt
  · exact (h.na a ha).1
theorem Reg.drew (h : Reg b mb A m L sl so st w) : Reg b mb A m L sl so st w.drew := h.keep (Nat.le_refl _) fun _ _ => rfl
end
end Go.Proofs.Ytfhgdjajifnfiaa.PA

namespace Go.Proofs.Ytfhgdjajifnfiaa.PA
open Go.RowKit Go.Maps Go.ChangeMaps Go.WideShapes Go.WideMaps Go.MuLone Go.Conc.Locks Go.Proofs.YtfhgdjajifnfiaaW.PrintWords Go.Proofs.YtfhgdjajifnfiaaW.PrintLast Go.Proofs.YtfhgdjajifnfiaaW.PrintMore
set_option linter.unusedVariables false

theorem cell_at {W : World} {b : Nat} {cs : Array Value} {e : TypeId} (h : W.heap[b]? = some (.cells cs e (0, 0))) (i : Nat) : W.cell? ⟨b, i, none⟩ = cs[i]? := by
  unfold World.cell?
  simp only [h]
  simp
theorem frozen_at {W : World} {b : Nat} {cs : Array Value} {e : TypeId} (h : W.heap[b]? = some (.cells cs e (0, 0))) (i : Nat) : W.frozen? ⟨b, i, none⟩ = false := by
  unfold World.frozen?
  simp only [h]
  simp
theorem Only.alloc {F : Nat → Prop} (w : World) (o : Obj) : Only F w (w.alloc o) := ⟨rfl, rfl, rfl, by simp, fun j hj _ => Below.heap_alloc _ _ _ hj⟩
theorem Only.set {F : Nat → Prop} (w : World) (a : Addr) (v : Value) (h : F a.block) : Only F w (w.setCell a v) := ⟨rfl, rfl, rfl, by simp, fun j _ hn => Below.heap_setCell _ _ _ _ fun e => hn (e ▸ h)⟩
set_option maxHeartbeats 2000000 in
set_option maxRecDepth 100000 in
theorem new_calls (m : Int) (w : World) :
    Calls Try.prog 14 #[.int .i64 m] w fun e w' => e = .returned (.pointer (some ⟨w.heap.size + 1, 0, none⟩)) ∧ Reg (w.heap.size + 1) w.heap.size none (bits .and .i64 m 127) [] false [] 0 w' ∧ Below w.heap.size w w' := by
  have hmm := @run_makeMap Try.prog
  go_enter Try.func14, Try.ntmps14
  go_wp2
  go_ret
  generalize bits .and .i64 m 127 = m'
  have hs : (w.alloc (.map #[] 0)).heap.size = w.heap.size + 1 := by simp
  have hg : ∀ o : Obj, ((w.alloc (.map #[] 0)).alloc o).heap[w.heap.size + 1]? = some o := fun o => by rw [← hs]; exact heap_alloc_new _ _
  refine ⟨rfl, ?_, (Below.refl _ _).alloc (Nat.le_refl _) _ |>.alloc (by simp) _⟩
  exact { lt := by simp, fz := frozen_at (hg _), c0 := cell_at (hg _) 0, c1 := cell_at (hg _) 1, mp := (World.ownsMap_made w Try.prog 9 hookR).alloc _, uq := ⟨List.Pairwise.nil, fun _ h => by simp at h⟩,
          c2 := cell_at (hg _) 2, c3 := cell_at (hg _) 3, c5 := cell_at (hg _) 5, c6 := ⟨0, cell_at (hg _) 6, Nat.le_refl _⟩, ro := Row.nil _ _, un := fun _ => cell_at (hg _) 6, c7 := cell_at (hg _) 7, ne := by omega, na := fun a ha => by cases ha }
set_option maxHeartbeats 2000000 in
set_option maxRecDepth 100000 in
theorem steps_calls {b mb : Nat} {A : Option Addr} {m : Int} {L : List S27} {sl : Bool} {so : List S27} {st : Int} (w : World) (hr : Reg b mb A m L sl so st w) :
    Calls Try.prog 18 #[.pointer (some ⟨b, 0, none⟩)] w fun e w' => e = .returned (.int .i64 st) ∧ w' = w := by
  have hl := run_call_load (P := Try.prog) Try.func38 (by kernel_rfl) (by kernel_rfl) (by kernel_rfl) .i64 (by kernel_rfl) hr.c7
  clear hr
  go_enter Try.func18, Try.ntmps18
  go_wp2_with (go_at_call 31; go_in)
  go_ret
  exact ⟨rfl, rfl⟩
end Go.Proofs.Ytfhgdjajifnfiaa.PA

namespace Go.Proofs.Ytfhgdjajifnfiaa.PA
open Go.RowKit Go.Maps Go.ChangeMaps Go.WideShapes Go.WideMaps Go.MuLone Go.Conc.Locks Go.Proofs.YtfhgdjajifnfiaaW.PrintWords Go.Proofs.YtfhgdjajifnfiaaW.PrintLast Go.Proofs.YtfhgdjajifnfiaaW.PrintMore
set_option linter.unusedVariables false

/-- What Add answers. -/
def addOk (L : List S27) (h : S27) : Bool := !h.f0.toList.isEmpty && !(L.any fun x => decide (x.f0 = h.f0))
theorem zero27 (w : World) : (zeroValue 27).run Try.prog w = .ok (hv z27) w := by kernel_rfl
theorem look_map {mb n : Nat} {L : List S27} {w : World} (hm : w.ownsMap Try.prog 9 hookR mb n (mapD L)) (h : S27) (hh : h.f0.size ≤ maxLen) :
    ∃ x, ∀ W : World, W.heap[mb]? = w.heap[mb]? → (Instr.lookup 51 (.map (some mb)) (.string h.f0) true).run Try.prog W = .ok (.tuple #[hv x, .bool (L.any fun x => decide (x.f0 = h.f0))]) W := by
  have hz : hookR (hv z27) = some (hookD z27, []) := rfl
  obtain ⟨v, ps, h1, h2⟩ := hm.look_ok (string_keyed Try.underlying9) Try.underlying51 (zero27 w) hz (keyOf_name h hh)
  obtain ⟨x, rfl, hx⟩ := hookR_inv h2
  refine ⟨x, fun W hW => ?_⟩
  obtain ⟨v', ps', h1', h2'⟩ := (ownsMap_keep hm hW).look_ok (string_keyed Try.underlying9) Try.underlying51 (zero27 W) hz (keyOf_name h hh)
  obtain ⟨x', rfl, hx'⟩ := hookR_inv h2'
  have e : x' = x := hookD_inj (by
    have e1 := congrArg Prod.fst hx
    have e2 := congrArg Prod.fst hx'
    exact e2.symm.trans e1)
  rw [h1', e, has_mapD]
set_option maxHeartbeats 4000000 in
set_option maxRecDepth 100000 in
theorem add_calls {b mb : Nat} {A : Option Addr} {m : Int} {L : List S27} {so : List S27} {st : Int} (h : S27) (w : World) (hr : Reg b mb A m L false so st w) (hh : h.f0.size ≤ maxLen) (hL : L.length < maxLen) :
    Calls Try.prog 15 #[.pointer (some ⟨b, 0, none⟩), hv h] w fun e w' => e = .returned (.bool (addOk L h)) ∧ Reg b mb A m (if addOk L h then L ++ [h] else L) false so st w' ∧ Only (Own3 b mb none) w w' := by
  obtain ⟨w1, hw1⟩ : ∃ w1, w.alloc (.cells #[.string h.f0, .int .i64 h.f1, .int .i64 h.f2, .string h.f3, .int .i64 h.f4] 27) = w1 := ⟨_, rfl⟩
  have hr1 : Reg b mb A m L false so st w1 := hw1 ▸ hr.keep_only (Only.alloc (F := fun _ => False) w _) (fun _ _ x => x)
  have ho1 : Only (Own3 b mb none) w w1 := hw1 ▸ Only.alloc w _
  have hs1 : w1.heap.size = w.heap.size + 1 := by rw [← hw1]; simp
  have hg : w1.heap[w.heap.size]? = some (.cells #[.string h.f0, .int .i64 h.f1, .int .i64 h.f2, .string h.f3, .int .i64 h.f4] 27 (0, 0)) := by rw [← hw1]; exact heap_alloc_new _ _
  have d0 : w1.cell? ⟨w.heap.size, 0, none⟩ = some (.string h.f0) := cell_at hg 0
  have k5 : w1.cell? ⟨b, 5, none⟩ = some (.bool false) := hr1.c5
  have k1 : w1.cell? ⟨b, 1, none⟩ = some (.map (some mb)) := hr1.c1
  have k1a : ∀ o : Obj, (w1.alloc o).cell? ⟨b, 1, none⟩ = some (.map (some mb)) := fun o => (World.cell?_of_block (w := w1) (a := ⟨b, 1, none⟩) (Below.heap_alloc _ _ _ hr1.lt)).trans k1
  have d0a : ∀ o : Obj, (w1.alloc o).cell? ⟨w.heap.size, 0, none⟩ = some (.string h.f0) := fun o => (World.cell?_of_block (w := w1) (a := ⟨w.heap.size, 0, none⟩) (Below.heap_alloc _ _ _ (by show w.heap.size < w1.heap.size; omega))).trans d0
  obtain ⟨x, hlk⟩ := look_map hr1.mp h hh
  have hl1 := hlk w1.drew rfl
  have hl2 := fun o => hlk (w1.drew.alloc o) (by have := hr1.mp.lt; exact Below.heap_alloc _ _ _ this)
  have hl3 := fun o => hlk (w1.alloc o).drew (by have := hr1.mp.lt; exact Below.heap_alloc _ _ _ this)
  have HR := Aside0.mk hr1
  have HO := Aside0.mk ho1
  have HG := Aside0.mk hg
  clear hg hr1 ho1 hr hlk
  cases hE : h.f0.toList.isEmpty with
  | true =>
    have ha : addOk L h = false := by simp [addOk, hE]
    rw [ha]
    go_enter Try.func15, Try.ntmps15
    go_wp2
    go_ret
    exact ⟨rfl, HR.out, HO.out⟩
  | false =>
    cases hT : L.any fun x => decide (x.f0 = h.f0) with
    | true =>
      have ha : addOk L h = false := by simp [addOk, hT]
      rw [ha]
      rw [hT] at hl1
      simp only [hT] at hl2 hl3
      go_enter Try.func15, Try.ntmps15
      go_wp2
      go_region
      go_wp2
      go_ret
      exact ⟨rfl, HR.out.keep_only (Only.alloc (F := fun _ => False) _ _).drew (fun _ _ x => x), HO.out.trans (Only.alloc _ _).drew⟩
    | false =>
      have ha : addOk L h = true := by simp [addOk, hT, hE]
      rw [ha]
      rw [hT] at hl1
      simp only [hT] at hl2 hl3
      have hnew : ∀ x ∈ L, x.f0 ≠ h.f0 := fun x hx e => by
        have := List.any_eq_false.1 hT x hx
        simp [e] at this
      obtain ⟨w3, hw3⟩ : ∃ w3, (w1.alloc (.cells #[.string x.f0, .int .i64 x.f1, .int .i64 x.f2, .string x.f3, .int .i64 x.f4] 27)).drew = w3 := ⟨_, rfl⟩
      have hr3 : Reg b mb A m L false so st w3 := hw3 ▸ HR.out.keep_only (Only.alloc (F := fun _ => False) _ _).drew (fun _ _ x => x)
      have ho3 : Only (Own3 b mb none) w w3 := hw3 ▸ HO.out.trans (Only.alloc _ _).drew
      have hg3 : w3.heap[w.heap.size]? = some (.cells #[.string h.f0, .int .i64 h.f1, .int .i64 h.f2, .string h.f3, .int .i64 h.f4] 27 (0, 0)) := by
        rw [← hw3]
        exact (Below.heap_alloc _ _ _ (by omega)).trans HG.out
      have e0 : w3.cell? ⟨w.heap.size, 0, none⟩ = some (.string h.f0) := cell_at hg3 0
      have e1 : w3.cell? ⟨w.heap.size, 1, none⟩ = some (.int .i64 h.f1) := cell_at hg3 1
      have e2 : w3.cell? ⟨w.heap.size, 2, none⟩ = some (.int .i64 h.f2) := cell_at hg3 2
      have e3 : w3.cell? ⟨w.heap.size, 3, none⟩ = some (.string h.f3) := cell_at hg3 3
      have e4 : w3.cell? ⟨w.heap.size, 4, none⟩ = some (.int .i64 h.f4) := cell_at hg3 4
      have e5 : w3.cell? ⟨b, 1, none⟩ = some (.map (some mb)) := hr3.c1
      obtain ⟨w4, hrun, hown, hturn⟩ := hr3.drew.mp.store (string_keyed Try.underlying9) Try.underlying51 hL (keyOf_name h hh) (hookR_mk h)
      rw [put_mapD hr3.uq h hh hnew] at hown
      have HF := Aside0.mk (show Reg b mb A m (L ++ [h]) false so st w4 ∧ Only (Own3 b mb none) w w4 from by
        have hgr := hturn.grown
        have hr4 := hr3.drew
        have kb : ∀ j, j < w3.heap.size → j ≠ mb → w4.heap[j]? = w3.heap[j]? := fun j hj hn => hgr.block j hj (by simp; exact hn)
        have kc : ∀ i, w4.cell? ⟨b, i, none⟩ = w3.cell? ⟨b, i, none⟩ := fun i => World.cell?_of_block (w := w3) (a := ⟨b, i, none⟩) (kb b hr3.lt (Ne.symm hr3.ne))
        have hsz := hgr.size
        have hsz' : w3.heap.size ≤ w4.heap.size := hsz
        have hlt := hr3.lt
        refine ⟨{ lt := (by omega), fz := fun j => (World.frozen?_of_block (w := w3) (a := ⟨b, j, none⟩) (kb b hr3.lt (Ne.symm hr3.ne))).trans (hr3.fz j), c0 := (kc 0).trans hr3.c0, c1 := (kc 1).trans hr3.c1, mp := (by rw [List.length_append]; exact hown), uq := hr3.uq.snoc h hh hnew, c2 := (kc 2).trans hr3.c2, c3 := (kc 3).trans hr3.c3, c5 := (kc 5).trans hr3.c5, c6 := (by obtain ⟨c, e, hc⟩ := hr3.c6; exact ⟨c, (kc 6).trans e, hc⟩), ro := hr3.ro.keep fun a ha => kb a.block (hr3.na a ha).1 (hr3.na a ha).2.2, un := fun x => (kc 6).trans (hr3.un x), c7 := (kc 7).trans hr3.c7, ne := hr3.ne, na := fun a ha => by have := hr3.na a ha; exact ⟨by omega, this.2.1, this.2.2⟩ }, ?_⟩
        exact ho3.drew.trans (Only.grown hgr (fun j hj _ => by cases hj; exact .inr (.inl rfl))))
      clear hown hturn hr3 ho3 hg3
      go_enter Try.func15, Try.ntmps15
      go_wp2
      go_region
      clear hw3 hl1 hl2 hl3 k1 k1a d0 d0a k5 hs1
      go_wp2
      go_region
      go_wp2
      go_ret
      exact ⟨rfl, HF.out⟩
end Go.Proofs.Ytfhgdjajifnfiaa.PA

namespace Go.Proofs.Ytfhgdjajifnfiaa.PA
open Go.Shelf
def sortHook_ren : Go.Shelf.Ren := ⟨fun | 6 => 43 | 14 => 51 | 15 => 52 | 20 => 59 | 21 => 60 | 22 => 61 | 23 => 62 | 24 => 63 | 25 => 64 | 26 => 65 | 27 => 66 | 28 => 67 | 29 => 68 | 46 => 73 | 47 => 74 | 48 => 75 | 49 => 76 | 50 => 77 | 57 => 86 | n => n, fun | 0 => 0 | 3 => 3 | 4 => 4 | 5 => 5 | 9 => 9 | 22 => 23 | 24 => 27 | 25 => 83 | 39 => 87 | 45 => 93 | 46 => 94 | 50 => 98 | 53 => 55 | 55 => 102 | 66 => 106 | 70 => 110 | 76 => 119 | 77 => 120 | n => n, fun n => n⟩
theorem sortHook : Go.Proofs.SlLaysF0.n6 Try.prog sortHook_ren := {
  mixed := by kernel_rfl,
  f6 := ⟨"slices.SortFunc[[]incipit/api.Hook,incipit/api.Hook]", by decide, Try.func43.trans (congrArg some (by kernel_rfl))⟩,
  f14 := ⟨"slices.pdqsortCmpFunc[incipit/api.Hook]", by decide, Try.func51.trans (congrArg some (by kernel_rfl))⟩,
  f15 := Try.func52.trans (congrArg some (by kernel_rfl)),
  f20 := ⟨"slices.insertionSortCmpFunc[incipit/api.Hook]", by decide, Try.func59.trans (congrArg some (by kernel_rfl))⟩,
  f21 := ⟨"slices.heapSortCmpFunc[incipit/api.Hook]", by decide, Try.func60.trans (congrArg some (by kernel_rfl))⟩,
  f22 := ⟨"slices.breakPatternsCmpFunc[incipit/api.Hook]", by decide, Try.func61.trans (congrArg some (by kernel_rfl))⟩,
  f23 := ⟨"slices.choosePivotCmpFunc[incipit/api.Hook]", by decide, Try.func62.trans (congrArg some (by kernel_rfl))⟩,
  f24 := ⟨"slices.reverseRangeCmpFunc[incipit/api.Hook]", by decide, Try.func63.trans (congrArg some (by kernel_rfl))⟩,
  f25 := ⟨"slices.partialInsertionSortCmpFunc[incipit/api.Hook]", by decide, Try.func64.trans (congrArg some (by kernel_rfl))⟩,
  f26 := ⟨"slices.partitionEqualCmpFunc[incipit/api.Hook]", by decide, Try.func65.trans (congrArg some (by kernel_rfl))⟩,
  f27 := ⟨"slices.partitionCmpFunc[incipit/api.Hook]", by decide, Try.func66.trans (congrArg some (by kernel_rfl))⟩,
  f28 := Try.func67.trans (congrArg some (by kernel_rfl)),
  f29 := Try.func68.trans (congrArg some (by kernel_rfl)),
  f46 := ⟨"slices.siftDownCmpFunc[incipit/api.Hook]", by decide, Try.func73.trans (congrArg some (by kernel_rfl))⟩,
  f47 := Try.func74.trans (congrArg some (by kernel_rfl)),
  f48 := Try.func75.trans (congrArg some (by kernel_rfl)),
  f49 := ⟨"slices.medianAdjacentCmpFunc[incipit/api.Hook]", by decide, Try.func76.trans (congrArg some (by kernel_rfl))⟩,
  f50 := ⟨"slices.medianCmpFunc[incipit/api.Hook]", by decide, Try.func77.trans (congrArg some (by kernel_rfl))⟩,
  f57 := ⟨"slices.order2CmpFunc[incipit/api.Hook]", by decide, Try.func86.trans (congrArg some (by kernel_rfl))⟩,
  t0 := Try.underlying0,
  a0 := Try.isAgg0,
  z0 := Try.sizeOf0,
  v0 := Try.zeroValue0,
  t3 := Try.underlying3,
  a3 := Try.isAgg3,
  z3 := Try.sizeOf3,
  v3 := Try.zeroValue3,
  t4 := Try.underlying4,
  a4 := Try.isAgg4,
  z4 := Try.sizeOf4,
  v4 := Try.zeroValue4,
  t5 := Try.underlying5,
  a5 := Try.isAgg5,
  z5 := Try.sizeOf5,
  v5 := Try.zeroValue5,
  t9 := Try.underlying9,
  a9 := Try.isAgg9,
  z9 := Try.sizeOf9,
  v9 := Try.zeroValue9,
  t22 := Try.underlying23,
  a22 := Try.isAgg23,
  z22 := Try.sizeOf23,
  v22 := Try.zeroValue23,
  t25 := Try.underlying83,
  a25 := Try.isAgg83,
  z25 := Try.sizeOf83,
  v25 := Try.zeroValue83,
  t39 := Try.underlying87,
  a39 := Try.isAgg87,
  z39 := Try.sizeOf87,
  v39 := Try.zeroValue87,
  t45 := Try.underlying93,
  a45 := Try.isAgg93,
  z45 := Try.sizeOf93,
  v45 := Try.zeroValue93,
  t46 := Try.underlying94,
  a46 := Try.isAgg94,
  z46 := Try.sizeOf94,
  v46 := Try.zeroValue94,
  t50 := Try.underlying98,
  a50 := Try.isAgg98,
  z50 := Try.sizeOf98,
  v50 := Try.zeroValue98,
  t53 := Try.underlying55,
  a53 := Try.isAgg55,
  z53 := Try.sizeOf55,
  v53 := Try.zeroValue55,
  t55 := Try.underlying102,
  a55 := Try.isAgg102,
  z55 := Try.sizeOf102,
  v55 := Try.zeroValue102,
  t66 := Try.underlying106,
  a66 := Try.isAgg106,
  z66 := Try.sizeOf106,
  v66 := Try.zeroValue106,
  t70 := Try.underlying110,
  a70 := Try.isAgg110,
  z70 := Try.sizeOf110,
  v70 := Try.zeroValue110,
  t76 := Try.underlying119,
  a76 := Try.isAgg119,
  z76 := Try.sizeOf119,
  v76 := Try.zeroValue119,
  t77 := Try.underlying120,
  a77 := Try.isAgg120,
  z77 := Try.sizeOf120,
  v77 := Try.zeroValue120 }
end Go.Proofs.Ytfhgdjajifnfiaa.PA

set_option linter.unusedVariables false
namespace Go.Proofs
open Go.Shelf
def Try.lays125_ren : Go.Shelf.Ren := ⟨fun | 125 => 52 | 128 => 67 | 129 => 68 | n => n, fun | 3 => 3 | 4 => 4 | 5 => 5 | 9 => 9 | 46 => 87 | 51 => 55 | 53 => 102 | n => n, fun | 1 => 0 | n => n⟩
theorem Try.lays125 : Go.Proofs.Lays.n125 Try.prog Try.lays125_ren := {
  mixed := by kernel_rfl,
  f125 := Try.func52.trans (congrArg some (by kernel_rfl)),
  f128 := Try.func67.trans (congrArg some (by kernel_rfl)),
  f129 := Try.func68.trans (congrArg some (by kernel_rfl)),
  t3 := Try.underlying3,
  a3 := Try.isAgg3,
  z3 := Try.sizeOf3,
  v3 := Try.zeroValue3,
  t4 := Try.underlying4,
  a4 := Try.isAgg4,
  z4 := Try.sizeOf4,
  v4 := Try.zeroValue4,
  t5 := Try.underlying5,
  a5 := Try.isAgg5,
  z5 := Try.sizeOf5,
  v5 := Try.zeroValue5,
  t9 := Try.underlying9,
  a9 := Try.isAgg9,
  z9 := Try.sizeOf9,
  v9 := Try.zeroValue9,
  t46 := Try.underlying87,
  a46 := Try.isAgg87,
  z46 := Try.sizeOf87,
  v46 := Try.zeroValue87,
  t51 := Try.underlying55,
  a51 := Try.isAgg55,
  z51 := Try.sizeOf55,
  v51 := Try.zeroValue55,
  t53 := Try.underlying102,
  a53 := Try.isAgg102,
  z53 := Try.sizeOf102,
  v53 := Try.zeroValue102 }
theorem Try.bits_Len (x : Int) (w : World) (h0 : 0 ≤ x) (h1 : x ≤ 18446744073709551615) :
    Calls Try.prog 52 #[.int .u64 x] w fun e w' => e = .returned (.int .i64 (Lib.bitLen x.toNat)) ∧ w' = w := Any.bits_Len Try.lays125 x w h0 h1
def Try.lays137_ren : Go.Shelf.Ren := ⟨fun | 137 => 33 | 217 => 39 | 266 => 48 | n => n, fun | 3 => 3 | 5 => 5 | 9 => 9 | n => n, fun | 1 => 0 | n => n⟩
theorem Try.lays137 : Go.Proofs.Lays.n137 Try.prog Try.lays137_ren := {
  mixed := by kernel_rfl,
  f137 := Try.func33.trans (congrArg some (by kernel_rfl)),
  f217 := Try.func39.trans (congrArg some (by kernel_rfl)),
  f266 := Try.func48.trans (congrArg some (by kernel_rfl)),
  t3 := Try.underlying3,
  a3 := Try.isAgg3,
  z3 := Try.sizeOf3,
  v3 := Try.zeroValue3,
  t5 := Try.underlying5,
  a5 := Try.isAgg5,
  z5 := Try.sizeOf5,
  v5 := Try.zeroValue5,
  t9 := Try.underlying9,
  a9 := Try.isAgg9,
  z9 := Try.sizeOf9,
  v9 := Try.zeroValue9 }
open Go.RowKit in
theorem Try.strings_IndexByte (s : ByteArray) (c : Int) (w : World) :
    Calls Try.prog 33 #[.string s, .int .u8 c] w fun e w' => e = .returned (.int .i64 (Lib.indexByte s.data.toList c.toNat.toUInt8)) ∧ w' = w := Any.strings_IndexByte Try.lays137 s c w
def Try.lays122_ren : Go.Shelf.Ren := ⟨fun | 122 => 46 | 215 => 53 | n => n, fun | 3 => 3 | 4 => 4 | n => n, fun | 1 => 0 | n => n⟩
theorem Try.lays122 : Go.Proofs.Lays.n122 Try.prog Try.lays122_ren := {
  mixed := by kernel_rfl,
  f122 := Try.func46.trans (congrArg some (by kernel_rfl)),
  f215 := Try.func53.trans (congrArg some (by kernel_rfl)),
  t3 := Try.underlying3,
  a3 := Try.isAgg3,
  z3 := Try.sizeOf3,
  v3 := Try.zeroValue3,
  t4 := Try.underlying4,
  a4 := Try.isAgg4,
  z4 := Try.sizeOf4,
  v4 := Try.zeroValue4 }
open Go.RowKit in
theorem Try.cmp_Compare_int (x y : Int) (w : World) :
    Calls Try.prog 46 #[.int .i64 x, .int .i64 y] w fun e w' => e = .returned (.int .i64 (Lib.compareInt x y)) ∧ w' = w := Any.cmp_Compare_int Try.lays122 x y w
end Go.Proofs

namespace Go.Proofs.Ytfhgdjajifnfiaa.PA
open Go.RowKit Go.Maps Go.ChangeMaps Go.WideShapes Go.WideMaps Go.MuLone Go.Conc.Locks Go.Sort Go.Proofs.YtfhgdjajifnfiaaW.PrintWords Go.Proofs.YtfhgdjajifnfiaaW.PrintLast Go.Proofs.YtfhgdjajifnfiaaW.PrintMore
set_option linter.unusedVariables false

theorem isNaN_s (a : ByteArray) (w : World) : Calls Try.prog 54 #[.string a] w fun e w' => e = .returned (.bool false) ∧ w' = w := by
  go_enter Try.func54, Try.ntmps54
  go_wp2
  go_ret
  exact ⟨rfl, rfl⟩
/-- cmp.Compare at two texts. -/
def cmpS (a b : ByteArray) : Int := if Op.bytesLess a.toList b.toList then -1 else if Op.bytesLess a.toList b.toList || a.toList == b.toList then 0 else 1
theorem cmp_s (a b : ByteArray) (w : World) : Calls Try.prog 47 #[.string a, .string b] w fun e w' => e = .returned (.int .i64 (cmpS a b)) ∧ w' = w := by
  have h := fun a W => isNaN_s a W
  unfold cmpS
  cases h1 : Op.bytesLess a.toList b.toList <;> cases h2 : a.toList == b.toList
  all_goals
    go_enter Try.func47, Try.ntmps47
    go_wp2_with (go_at_call 54; refine (h _ _).mono ?_; rintro e w' ⟨rfl, rfl⟩)
    go_ret
    exact ⟨rfl, rfl⟩
set_option maxHeartbeats 1000000 in
theorem or_calls (g c : Nat) (x y : Int) (w : World) (h0 : w.cell? ⟨g, 0, none⟩ = some (.int .i64 x)) (h1 : w.cell? ⟨g, 1, none⟩ = some (.int .i64 y)) :
    Calls Try.prog 45 #[.slice (some ⟨g, 0, none⟩) 2 c] w fun e w' => e = .returned (.int .i64 (if x = 0 then y else x)) ∧ w' = w := by
  by_cases hx : x = 0
  · subst hx
    have e1 : ((0 : Int) != 0) = false := rfl
    by_cases hy : y = 0
    · subst hy
      rw [if_pos rfl]
      go_enter Try.func45, Try.ntmps45
      go_wp2
      go_loopw [8] (fun vi wr => ∃ j : Nat, vi = .int .i64 j ∧ j ≤ 2 ∧ wr = w) (fun vi _ => 2 - (intOf vi).toNat)
      case atStart => exact ⟨0, rfl, by omega, rfl⟩
      case round =>
        obtain ⟨j, rfl, hj, rfl⟩ := hrel
        have hj3 : j = 0 ∨ j = 1 ∨ j = 2 := by omega
        rcases hj3 with rfl | rfl | rfl
        · go_wp2
          go_roundw
          case rel => exact ⟨1, rfl, by omega, by simp⟩
          case measure => simp [intOf]
        · go_wp2
          go_roundw
          case rel => exact ⟨2, rfl, by omega, by simp⟩
          case measure => simp [intOf]
        · go_wp2
          go_ret
          exact ⟨rfl, rfl⟩
    · have y1 : (y == 0) = false := beq_eq_false_iff_ne.2 hy
      have y2 : (y != 0) = true := by simp [bne, y1]
      rw [if_pos rfl]
      go_enter Try.func45, Try.ntmps45
      go_wp2
      go_loopw [8] (fun vi wr => ∃ j : Nat, vi = .int .i64 j ∧ j ≤ 1 ∧ wr = w) (fun vi _ => 2 - (intOf vi).toNat)
      case atStart => exact ⟨0, rfl, by omega, rfl⟩
      case round =>
        obtain ⟨j, rfl, hj, rfl⟩ := hrel
        have hj3 : j = 0 ∨ j = 1 := by omega
        rcases hj3 with rfl | rfl
        · go_wp2
          go_roundw
          case rel => exact ⟨1, rfl, by omega, by simp⟩
          case measure => simp [intOf]
        · go_wp2
          go_ret
          exact ⟨rfl, rfl⟩
  · have x1 : (x == 0) = false := beq_eq_false_iff_ne.2 hx
    have x2 : (x != 0) = true := by simp [bne, x1]
    rw [if_neg hx]
    go_enter Try.func45, Try.ntmps45
    go_wp2
    go_loopw [8] (fun vi wr => vi = .int .i64 0 ∧ wr = w) (fun vi _ => 2 - (intOf vi).toNat)
    case atStart => exact ⟨rfl, rfl⟩
    case round =>
      obtain ⟨rfl, rfl⟩ := hrel
      go_wp2
      go_ret
      exact ⟨rfl, rfl⟩
theorem third (w : World) (o1 o2 : Obj) (cs : Array Value) (e : TypeId) (i : Nat) : (((w.alloc o1).alloc o2).alloc (.cells cs e)).cell? ⟨w.heap.size + 1 + 1, i, none⟩ = cs[i]? := by
  refine cell_at (e := e) ?_ i
  have h := heap_alloc_new ((w.alloc o1).alloc o2) (.cells cs e)
  rw [World.size_alloc, World.size_alloc] at h
  exact h
/-- The order of hooks. -/
def cfH (x y : S27) : Int := if Lib.compareInt x.f2 y.f2 = 0 then cmpS x.f0 y.f0 else Lib.compareInt x.f2 y.f2
set_option maxHeartbeats 4000000 in
set_option maxRecDepth 100000 in
theorem closure44 (x y : S27) (W : World) : Calls Try.prog 44 #[hv x, hv y] W fun e w' => e = .returned (.int .i64 (cfH x y)) ∧ ∃ q os', w' = grow (W.drewN q) os' := by
  have hc := fun W' => Try.cmp_Compare_int x.f2 y.f2 W'
  have hs := fun W' => cmp_s x.f0 y.f0 W'
  have ho := fun g c W' h0 h1 => or_calls g c (Lib.compareInt x.f2 y.f2) (cmpS x.f0 y.f0) W' h0 h1
  have e : cfH x y = if Lib.compareInt x.f2 y.f2 = 0 then cmpS x.f0 y.f0 else Lib.compareInt x.f2 y.f2 := rfl
  rw [e]
  clear e
  generalize Lib.compareInt x.f2 y.f2 = r at hc ho ⊢
  generalize cmpS x.f0 y.f0 = s at hs ho ⊢
  obtain ⟨v, hv'⟩ : ∃ v, (if r = 0 then s else r) = v := ⟨_, rfl⟩
  simp only [hv'] at ho ⊢
  clear hv'
  go_enter Try.func44, Try.ntmps44
  go_wp2
  refine wp_region_still_tail 10 (by kernel_rfl) (by kernel_rfl) ?_
  simp only [List.take_succ_cons, List.take_zero, List.drop_succ_cons, List.drop_zero]
  change wpStill _ _ (World.drew _) _ _ _
  still_step
  still_step
  still_step
  still_step
  still_call (hc _)
  still_step
  still_step
  still_step
  still_step
  still_call (hs _)
  refine wpStill_nil ?_
  change wpList _ _ _ _ _ (World.drew _)
  go_wp2_with (go_at_call 45; refine (ho _ _ _ (by simp only [World.cell?_drew]; exact third _ _ _ _ _ 0) (by simp only [World.cell?_drew]; exact third _ _ _ _ _ 1)).mono ?_; rintro e w' ⟨rfl, rfl⟩)
  go_ret
  exact ⟨rfl, 1, _, by rw [alloc_eq_grow, alloc_eq_grow, alloc_eq_grow, grow_grow, grow_grow]; rfl⟩
end Go.Proofs.Ytfhgdjajifnfiaa.PA

namespace Go.Proofs.Ytfhgdjajifnfiaa.PA
open Go.RowKit Go.Maps Go.ChangeMaps Go.WideShapes Go.WideMaps Go.MuLone Go.Conc.Locks Go.Sort Go.Proofs.YtfhgdjajifnfiaaW.PrintWords Go.Proofs.YtfhgdjajifnfiaaW.PrintLast Go.Proofs.YtfhgdjajifnfiaaW.PrintMore
set_option linter.unusedVariables false

instance : Inhabited S27 := ⟨z27⟩
/-- Ahead of another: by priority, then by name. -/
def ltH (x y : S27) : Prop := x.f2 < y.f2 ∨ (x.f2 = y.f2 ∧ x.f0.toList < y.f0.toList)
theorem cmpS_neg (a b : ByteArray) : cmpS a b < 0 ↔ a.toList < b.toList := by
  unfold cmpS
  rw [bytesLess_eq]
  by_cases h : a.toList < b.toList
  · simp [h]
  · simp only [h, decide_false, Bool.false_or, Bool.false_eq_true, if_false, iff_false]
    split <;> omega
theorem cfH_neg (x y : S27) : cfH x y < 0 ↔ ltH x y := by
  unfold cfH ltH Lib.compareInt
  by_cases h1 : x.f2 < y.f2
  · simp [h1]
  · by_cases h2 : y.f2 < x.f2
    · have : ¬ x.f2 = y.f2 := by omega
      simp [h1, h2, this]
    · have : x.f2 = y.f2 := by omega
      simp [this, cmpS_neg]
theorem ltOf_iff (x y : S27) : ltOf cfH x y = true ↔ ltH x y := by
  unfold ltOf
  rw [decide_eq_true_eq, cfH_neg]
theorem ltH_irrefl (x : S27) : ¬ ltH x x := by
  rintro (h | ⟨_, h⟩)
  · omega
  · exact List.lt_irrefl _ h
theorem ltH_trans {x y z : S27} (h1 : ltH x y) (h2 : ltH y z) : ltH x z := by
  rcases h1 with h1 | ⟨h1, h1'⟩ <;> rcases h2 with h2 | ⟨h2, h2'⟩
  · exact .inl (by omega)
  · exact .inl (by omega)
  · exact .inl (by omega)
  · exact .inr ⟨by omega, List.lt_trans h1' h2'⟩
theorem ltH_ntrans {x y z : S27} (h1 : ¬ ltH x y) (h2 : ¬ ltH y z) : ¬ ltH x z := by
  have a1 : ¬ x.f2 < y.f2 := fun a => h1 (.inl a)
  have a2 : ¬ y.f2 < z.f2 := fun a => h2 (.inl a)
  rintro (h | ⟨h, h'⟩)
  · omega
  · have l1 : ¬ x.f0.toList < y.f0.toList := fun a => h1 (.inr ⟨by omega, a⟩)
    have l2 : ¬ y.f0.toList < z.f0.toList := fun a => h2 (.inr ⟨by omega, a⟩)
    exact List.not_lt.2 (List.le_trans (List.not_lt.1 l2) (List.not_lt.1 l1)) h'
theorem swoH : SWO (ltOf cfH) where
  irrefl x := Bool.eq_false_iff.2 fun h => ltH_irrefl x ((ltOf_iff x x).1 h)
  trans x y z h1 h2 := (ltOf_iff x z).2 (ltH_trans ((ltOf_iff x y).1 h1) ((ltOf_iff y z).1 h2))
  ntrans x y z h1 h2 := Bool.eq_false_iff.2 fun h => ltH_ntrans (fun a => Bool.eq_false_iff.1 h1 ((ltOf_iff x y).2 a)) (fun a => Bool.eq_false_iff.1 h2 ((ltOf_iff y z).2 a)) ((ltOf_iff x z).1 h)
set_option maxHeartbeats 1000000 in
theorem sort_calls (blk cap : Nat) (d : Array S27) (w : World) (hH : HoldsK hcs 5 w blk 0 d) (hblk : blk < w.heap.size) (hsz : d.size < 4611686018427387904) :
    Calls Try.prog 43 #[.slice (some ⟨blk, 0, none⟩) d.size cap, .func (.func 44) #[] #[]] w fun e w' => e = .returned (.tuple #[]) ∧ ∃ d' n os, PermIn 0 d.size d d' ∧ SortedIn (ltOf cfH) 0 d.size d' ∧ w' = sortWorldK hcs 5 w blk 0 n d' os := by
  have eg : ∀ args w, (callFunc 44 args).run Try.prog w = .ok (.enter 44 args) w := enters_of Try.func44 (by kernel_rfl) rfl
  have hcon := AnyQ.slices_SortFunc sortHook 5 Try.isAgg27 Try.sizeOf27 hcs (fun _ => rfl) (fun x v hv => by simp [hcs] at hv; rcases hv with rfl | rfl | rfl | rfl | rfl <;> rfl) cfH swoH 44 #[] blk 0 cap d w eg (fun _ _ _ _ x y => closure44 x y _) hH hblk hsz
  change Calls Try.prog 43 _ _ _ at hcon
  exact hcon
/-- Is a hook on? -/
def onH (m : Int) (h : S27) : Bool := h.f4 == 0 || bits .and .i64 h.f4 m != 0
set_option maxHeartbeats 1000000 in
theorem on_calls (b : Nat) (m : Int) (h : S27) (W : World) (c0 : W.cell? ⟨b, 0, none⟩ = some (.int .i64 m)) :
    Calls Try.prog 42 #[.pointer (some ⟨b, 0, none⟩), hv h] W fun e w' => e = .returned (.bool (onH m h)) ∧ Below W.heap.size W w' := by
  have hlt : b < W.heap.size := World.block_lt_of_cell? W _ c0
  have c0a : ∀ o : Obj, (W.alloc o).cell? ⟨b, 0, none⟩ = some (.int .i64 m) := fun o => (World.cell?_of_block (w := W) (a := ⟨b, 0, none⟩) (Below.heap_alloc _ _ _ hlt)).trans c0
  have hB := Aside0.mk (fun (o : Obj) (n : Nat) => (((Below.refl W.heap.size W).alloc (Nat.le_refl _) o).trans (show Below W.heap.size (W.alloc o) ((W.alloc o).drewN n) from ⟨rfl, rfl, rfl, Nat.le_refl _, fun _ _ => rfl⟩)))
  unfold onH
  generalize hr : bits .and .i64 h.f4 m = r
  by_cases h0 : h.f4 = 0
  · have e0 : (h.f4 == 0) = true := beq_iff_eq.2 h0
    rw [e0, Bool.true_or]
    clear hr
    go_enter Try.func42, Try.ntmps42
    go_wp2
    go_quiet (fail)
    go_wp2
    go_ret
    exact ⟨rfl, hB.out _ _⟩
  · have e0 : (h.f4 == 0) = false := beq_eq_false_iff_ne.2 h0
    rw [e0, Bool.false_or]
    go_enter Try.func42, Try.ntmps42
    go_wp2
    go_quiet (fail)
    go_wp2
    go_ret
    exact ⟨rfl, hB.out _ _⟩
end Go.Proofs.Ytfhgdjajifnfiaa.PA

namespace Go.Proofs.Ytfhgdjajifnfiaa.PA
open Go.RowKit Go.Maps Go.ChangeMaps Go.WideShapes Go.WideMaps Go.Sort Go.Proofs.YtfhgdjajifnfiaaW.PrintWords Go.Proofs.YtfhgdjajifnfiaaW.PrintLast Go.Proofs.YtfhgdjajifnfiaaW.PrintMore
set_option linter.unusedVariables false

/-- The hooks met so far. -/
def Met (L : List S27) (left : Lit → Bool) (ss : List S27) : Prop := ss.Nodup ∧ ∀ h, h ∈ ss ↔ (h ∈ L ∧ left (keyL h) = false)
theorem met_start (L : List S27) : Met L (Maps.has (mapD L)) [] := by
  refine ⟨List.nodup_nil, fun h => ⟨fun x => by simp at x, fun ⟨h1, h2⟩ => ?_⟩⟩
  rw [has_mapD] at h2
  have := List.any_eq_false.1 h2 h h1
  simp at this
theorem sameKey_iff (x y : S27) : (keyL x).sameKey (keyL y) = decide (x.f0 = y.f0) := by
  rw [Bool.eq_iff_iff, decide_eq_true_eq]
  constructor
  · intro h
    exact bytes_inj (by simpa [Lit.sameKey] using h)
  · intro h
    simp [Lit.sameKey, h]
theorem at_mapD {L : List S27} {x : List UInt8} {c : S27} (h : ∀ zd, (mapD L).atKey (.string x) zd = hookD c) : c ∈ L ∧ x = c.f0.data.toList := by
  have hh := has_true_of_atKey h
  have e := h .nil
  unfold mapD DataW.atKey at e
  simp only at e
  cases hf : ((entsL L).foldr DataW.insert []).find? (fun p => p.1.sameKey (.string x)) with
  | none =>
    rw [hf] at e
    simp only at e
    unfold hookD at e
    cases e
  | some p =>
    rw [hf] at e
    simp only at e
    have hp := mem_sorted.1 (List.mem_of_find?_eq_some hf)
    have hs := List.find?_some hf
    obtain ⟨y, hy, rfl⟩ := List.mem_map.1 hp
    simp only at e hs
    have hc := hookD_inj e
    subst hc
    refine ⟨hy, ?_⟩
    have : y.f0.data.toList = x := by simpa [Lit.sameKey] using hs
    exact this.symm
theorem pw_eq : ∀ {L : List S27}, L.Pairwise (fun x y => x.f0 ≠ y.f0) → ∀ {x y : S27}, x ∈ L → y ∈ L → x.f0 = y.f0 → x = y
  | [], _, _, _, hx, _, _ => by simp at hx
  | a :: r, hp, x, y, hx, hy, h => by
    obtain ⟨h1, h2⟩ := List.pairwise_cons.1 hp
    rcases List.mem_cons.1 hx with ex | hx'
    · rcases List.mem_cons.1 hy with ey | hy'
      · rw [ex, ey]
      · exact absurd (ex ▸ h) (h1 y hy')
    · rcases List.mem_cons.1 hy with ey | hy'
      · exact absurd (ey ▸ h).symm (h1 x hx')
      · exact pw_eq h2 hx' hy' h
theorem uniq_eq {L : List S27} (U : Uniq L) {x y : S27} (hx : x ∈ L) (hy : y ∈ L) (h : x.f0 = y.f0) : x = y := pw_eq U.ne hx hy h
theorem met_step {L : List S27} (U : Uniq L) {left : Lit → Bool} {ss : List S27} (h : Met L left ss) {c : S27} (hc : c ∈ L) (hl : left (keyL c) = true) : Met L (fun z => left z && !z.sameKey (keyL c)) (ss ++ [c]) := by
  have hnew : c ∉ ss := fun hx => by have := ((h.2 c).1 hx).2; rw [hl] at this; cases this
  refine ⟨List.nodup_append.2 ⟨h.1, by simp, fun a ha b hb => by simp at hb; subst hb; exact fun e => hnew (e ▸ ha)⟩, fun y => ?_⟩
  rw [List.mem_append, List.mem_singleton, h.2 y]
  show _ ↔ y ∈ L ∧ (left (keyL y) && !(keyL y).sameKey (keyL c)) = false
  rw [sameKey_iff]
  constructor
  · rintro (⟨h1, h2⟩ | rfl)
    · exact ⟨h1, by rw [h2, Bool.false_and]⟩
    · exact ⟨hc, by simp⟩
  · rintro ⟨h1, h2⟩
    by_cases e : y.f0 = c.f0
    · exact .inr (uniq_eq U h1 hc e)
    · refine .inl ⟨h1, ?_⟩
      simpa [e] using h2
theorem uniq_nodup {L : List S27} (U : Uniq L) : L.Nodup := U.ne.imp fun {x y} hne e => hne (by rw [e])
theorem met_end {L : List S27} (U : Uniq L) {left : Lit → Bool} {ss : List S27} (h : Met L left ss) (hl : ∀ kl, left kl = false) : ss.Perm L := by
  refine (List.perm_ext_iff_of_nodup h.1 (uniq_nodup U)).2 fun y => ?_
  rw [h.2 y]
  exact ⟨fun a => a.1, fun a => ⟨a, hl _⟩⟩
theorem size_mapD (L : List S27) : Maps.size (mapD L) = L.length := by
  unfold mapD
  rw [size_eq, length_sorted]
  simp [entsL]
theorem flatH_at : ∀ (l : List S27) (n : Nat) (u : Value), (l.flatMap hcs)[n]? = some u → ∃ j i x, n = j * 5 + i ∧ l[j]? = some x ∧ (hcs x)[i]? = some u
  | [], n, u, h => by simp at h
  | x :: l, n, u, h => by
    rw [List.flatMap_cons] at h
    by_cases hn : n < 5
    · rw [List.getElem?_append_left hn] at h
      exact ⟨0, n, x, by omega, rfl, h⟩
    · rw [List.getElem?_append_right (show (hcs x).length ≤ n from by show 5 ≤ n; omega)] at h
      obtain ⟨j, i, y, h1, h2, h3⟩ := flatH_at l (n - 5) u h
      exact ⟨j + 1, i, y, by omega, h2, h3⟩
theorem flatH_len : ∀ (l : List S27), (l.flatMap hcs).length = l.length * 5
  | [] => rfl
  | x :: l => by rw [List.flatMap_cons, List.length_append, flatH_len l]; show 5 + l.length * 5 = (l.length + 1) * 5; omega
end Go.Proofs.Ytfhgdjajifnfiaa.PA

namespace Go.Proofs.Ytfhgdjajifnfiaa.PA
open Go.RowKit Go.Sort
set_option linter.unusedVariables false

theorem ins_nil (f : Value) (w : World) : Calls Try.prog 59 #[.slice none 0 0, .int .i64 0, .int .i64 0, f] w fun e w' => e = .returned (.tuple #[]) ∧ w' = w := by
  go_enter Try.func59, Try.ntmps59
  go_wp2
  go_loopw [8] (fun vi wr => vi = .int .i64 1 ∧ wr = w) (fun _ _ => 0)
  case atStart => exact ⟨rfl, rfl⟩
  case round =>
    obtain ⟨rfl, rfl⟩ := hrel
    go_wp2
    go_end0
    exact ⟨rfl, rfl⟩
set_option maxHeartbeats 1000000 in
theorem pdq_nil (f : Value) (w : World) : Calls Try.prog 51 #[.slice none 0 0, .int .i64 0, .int .i64 0, .int .i64 0, f] w fun e w' => e = .returned (.tuple #[]) ∧ w' = w := by
  have h := fun W => ins_nil f W
  go_enter Try.func51, Try.ntmps51
  go_wp2
  go_loopw [1, 2, 3] (fun v1 v2 v3 wr => v1 = .int .i64 0 ∧ v2 = .int .i64 0 ∧ v3 = .int .i64 0 ∧ wr = w) (fun _ _ _ _ => 0)
  case atStart => exact ⟨rfl, rfl, rfl, rfl⟩
  case round =>
    obtain ⟨rfl, rfl, rfl, rfl⟩ := hrel
    go_wp2_with (go_at_call 59; refine (h _).mono ?_; rintro e w' ⟨rfl, rfl⟩)
    refine bodyPost_ret (results_none rfl _ _ _) rfl ?_
    exact ⟨rfl, rfl⟩
theorem sort_nil (f : Value) (w : World) : Calls Try.prog 43 #[.slice none 0 0, f] w fun e w' => e = .returned (.tuple #[]) ∧ w' = w := by
  have h := fun W => pdq_nil f W
  have hl := fun W => Try.bits_Len 0 W (by omega) (by omega)
  go_enter Try.func43, Try.ntmps43
  go_wp2_with (first | (go_at_call 52; refine (hl _).mono ?_; rintro e w' ⟨rfl, rfl⟩) | (go_at_call 51; refine (h _).mono ?_; rintro e w' ⟨rfl, rfl⟩))
  go_end0
  exact ⟨rfl, rfl⟩
end Go.Proofs.Ytfhgdjajifnfiaa.PA

namespace Go.Proofs.Ytfhgdjajifnfiaa.PA
open Go.RowKit Go.Maps Go.ChangeMaps Go.WideShapes Go.WideMaps Go.Sort Go.Proofs.YtfhgdjajifnfiaaW.PrintWords Go.Proofs.YtfhgdjajifnfiaaW.PrintLast Go.Proofs.YtfhgdjajifnfiaaW.PrintMore
set_option linter.unusedVariables false

theorem add0 (g n : Nat) : (⟨g, 0, none⟩ : Addr).add n = ⟨g, n, none⟩ := by
  unfold Addr.add
  split
  · rename_i h0
    subst h0
    rfl
  · simp
theorem row_of {w : World} {g : Nat} {ys : List S27} (hl : ys.length ≤ 9223372036854775807) (h : ∀ j x, ys[j]? = some x → ∀ i u, (hcs x)[i]? = some u → w.cell? ⟨g, j * 5 + i, none⟩ = some u) : Row w (some ⟨g, 0, none⟩) ys := by
  refine ⟨rfl, hl, fun _ => ⟨_, rfl, fun j p hp => ⟨hcs p, rfl, k27_mk w p, fun i u hu => ?_⟩⟩⟩
  rw [add0]
  exact h j p hp i u hu
theorem flatH_some (xs : List S27) (t : Nat) (ht : t < xs.length * 5) : (xs.flatMap hcs)[t]? = some ((hcs xs.toArray[t / 5]!)[t % 5]!) := by
  obtain ⟨u, hu⟩ : ∃ u, (xs.flatMap hcs)[t]? = some u := ⟨_, List.getElem?_eq_getElem (by rw [flatH_len]; exact ht)⟩
  obtain ⟨j, i, x, rfl, hx, hi⟩ := flatH_at xs t u hu
  have hi5 : i < 5 := (List.getElem?_eq_some_iff.1 hi).1
  have e1 : (j * 5 + i) / 5 = j := by omega
  have e2 : (j * 5 + i) % 5 = i := by omega
  have e3 : xs.toArray[j]! = x := by
    obtain ⟨h1, h2⟩ := List.getElem?_eq_some_iff.1 hx
    rw [getElem!_pos xs.toArray j (by simpa using h1)]
    simpa using h2
  rw [hu, e1, e2, e3, List.getElem!_eq_getElem?_getD, hi]
  rfl
theorem heap_putRow (w : World) (g n : Nat) (F : Array Value) (os : Array Obj) {j : Nat} (hj : j < w.heap.size) (hn : j ≠ g) : (grow (putRow id (Sort.ahead w n) g 0 F) os).heap[j]? = w.heap[j]? := by
  rw [heap_grow_old _ _ (by simp [putRow, mapBlock]; exact hj)]
  simp [putRow, mapBlock, Sort.ahead, Array.getElem?_modify, Ne.symm hn]
set_option maxHeartbeats 1000000 in
theorem sort_own {base : Nat} {v : Value} {xs : List S27} {w : World} (h : w.ownsRow base 27 5 v xs.length (xs.flatMap hcs)) (hl : xs.length ≤ 100000) :
    Calls Try.prog 43 #[v, .func (.func 44) #[] #[]] w fun e w' => e = .returned (.tuple #[]) ∧ ∃ A c ys, v = .slice A ys.length c ∧ ys.length ≤ c ∧ ys.Perm xs ∧ ys.Pairwise (fun x y => ¬ ltH y x) ∧ Row w' A ys ∧ (∀ a, A = some a → base ≤ a.block ∧ a.block < w.heap.size) ∧ Only (fun j => some j = v.ownBlock) w w' := by
  obtain ⟨h1, h2⟩ := h
  rcases h2 with ⟨rfl, h0⟩ | ⟨g, cap, cur, rfl, hg, hh, hn, hcap, hcsz, htk⟩
  · obtain rfl : xs = [] := List.eq_nil_of_length_eq_zero h0
    refine (sort_nil _ w).mono ?_
    rintro e w' ⟨rfl, rfl⟩
    exact ⟨rfl, none, 0, [], rfl, Nat.le_refl _, .refl _, .nil, Row.nil _ _, fun a ha => (by cases ha), Only.refl _ _⟩
  · have hlt : g < w.heap.size := (Array.getElem?_eq_some_iff.1 hh).1
    have hH : HoldsK hcs 5 w g 0 xs.toArray := by
      intro t ht
      rw [size_flatK, List.size_toArray] at ht
      refine ⟨?_, frozen_at hh _⟩
      rw [cell_at hh, get_flatK _ _ _ _ (by rw [List.size_toArray]; exact ht), Nat.zero_add]
      show cur[t]? = some ((hcs xs.toArray[t / 5]!)[t % 5]!)
      rw [← flatH_some xs t ht, ← htk, List.getElem?_take_of_lt ht, Array.getElem?_toList]
    have hs := sort_calls g cap xs.toArray w hH hlt (by rw [List.size_toArray]; omega)
    rw [List.size_toArray] at hs
    refine hs.mono ?_
    rintro e w' ⟨rfl, d', n, os, hp, hso, rfl⟩
    have hsz : d'.size = xs.length := hp.1.trans List.size_toArray
    have hperm : d'.toList.Perm xs := by
      have := hp.2.2
      rw [← hsz] at this
      have e1 : d'.extract 0 d'.size = d' := by simp
      have e2 : xs.toArray.extract 0 d'.size = xs.toArray := by rw [hsz]; simp
      rw [e1, e2] at this
      simpa using this
    have hH2 : HoldsK hcs 5 (sortWorldK hcs 5 w g 0 n d' os) g 0 d' := by
      unfold sortWorldK
      refine holdsK_grow hcs 5 _ os g 0 d' (by simp [putRowK, putRow, mapBlock]; exact hlt) ?_
      exact holdsK_putRowK hcs 5 _ g 0 xs.toArray d' (holdsK_ahead hcs 5 w n g 0 _ hH) (by rw [hsz, List.size_toArray])
    refine ⟨rfl, some ⟨g, 0, none⟩, cap, d'.toList, congrArg (fun q : Nat => Value.slice (some ⟨g, 0, none⟩) q cap) (Array.length_toList.trans hsz).symm, by rw [Array.length_toList, hsz]; exact hn, hperm, ?_, ?_, ?_, ?_⟩
    · refine List.pairwise_iff_getElem.2 fun i j hi hj hij => ?_
      rw [Array.length_toList] at hi hj
      have := hso i j (Nat.zero_le _) hij (by omega)
      rw [getElem!_pos d' i hi, getElem!_pos d' j hj] at this
      simp only [Array.getElem_toList]
      exact fun hx => by rw [(ltOf_iff _ _).2 hx] at this; cases this
    · refine row_of (by rw [Array.length_toList]; omega) fun j x hx i u hu => ?_
      rw [Array.getElem?_toList] at hx
      obtain ⟨hj, hx⟩ := Array.getElem?_eq_some_iff.1 hx
      have hi : i < 5 := (List.getElem?_eq_some_iff.1 hu).1
      have := (hH2.cell hj hi).1
      rw [getElem!_pos d' j hj, hx, List.getElem!_eq_getElem?_getD, hu, Nat.zero_add] at this
      exact this
    · rintro a ha
      cases ha
      exact ⟨hg, hlt⟩
    · refine ⟨rfl, rfl, rfl, by simp [sortWorldK, putRowK, putRow, mapBlock], fun j hj hne => ?_⟩
      exact heap_putRow w g n _ os hj fun e => hne (by rw [e]; rfl)
end Go.Proofs.Ytfhgdjajifnfiaa.PA

namespace Go.Proofs.Ytfhgdjajifnfiaa.PA
open Go.RowKit Go.Maps Go.ChangeMaps Go.WideShapes Go.WideMaps Go.Sort Go.Proofs.YtfhgdjajifnfiaaW.PrintWords Go.Proofs.YtfhgdjajifnfiaaW.PrintLast Go.Proofs.YtfhgdjajifnfiaaW.PrintMore
set_option linter.unusedVariables false

/-- What the loop keeps of the registry's block and of the captured variable. -/
structure Kp (b g : Nat) (w0 w : World) : Prop where
  only : Only (fun j => j = b) w0 w
  ce : ∀ j, j ≠ 6 → w.cell? ⟨b, j, none⟩ = w0.cell? ⟨b, j, none⟩
  fz : ∀ j, w.frozen? ⟨b, j, none⟩ = w0.frozen? ⟨b, j, none⟩
theorem Kp.refl (b g : Nat) (w : World) : Kp b g w w := ⟨Only.refl _ _, fun _ _ => rfl, fun _ => rfl⟩
theorem Kp.grown {b g : Nat} {w0 w w' : World} {row : Option Nat} (h : Kp b g w0 w) (hb : b < w0.heap.size) (hg : w.grownBy w' row) (hr : ∀ j, row = some j → w0.heap.size ≤ j) : Kp b g w0 w' := by
  have hk : w'.heap[b]? = w.heap[b]? := hg.block b (Nat.lt_of_lt_of_le hb h.only.size) fun e => by have := hr b e.symm; omega
  exact ⟨⟨hg.os.trans h.only.os, hg.tape.trans h.only.tape, hg.output.trans h.only.output, Nat.le_trans h.only.size hg.size, fun j hj hn => (hg.block j (Nat.lt_of_lt_of_le hj h.only.size) fun e => by have := hr j e.symm; omega).trans (h.only.block j hj hn)⟩,
    fun j hj => (World.cell?_of_block (w := w) (a := ⟨b, j, none⟩) hk).trans (h.ce j hj), fun j => (World.frozen?_of_block (w := w) (a := ⟨b, j, none⟩) hk).trans (h.fz j)⟩
theorem Kp.below {b g : Nat} {w0 w w' : World} (h : Kp b g w0 w) (hb : b < w0.heap.size) (hg : Below w.heap.size w w') : Kp b g w0 w' :=
  h.grown hb (row := none) ⟨hg.os, hg.tape, hg.output, hg.size, fun j hj _ => hg.block j hj⟩ fun j e => by cases e
theorem grown_set (w : World) (a : Addr) (v : Value) : w.grownBy (w.setCell a v) (some a.block) := ⟨rfl, rfl, rfl, by simp, fun k _ hn => Below.heap_setCell _ _ _ _ fun e => hn (by rw [e])⟩
theorem Kp.set {b g : Nat} {w0 w : World} (h : Kp b g w0 w) (v : Value) : Kp b g w0 (w.setCell ⟨b, 6, none⟩ v) :=
  ⟨h.only.trans (Only.set w ⟨b, 6, none⟩ v rfl), fun j hj => (World.cell?_setCell_other _ ⟨b, 6, none⟩ ⟨b, j, none⟩ _ (by intro e; apply hj; have h := congrArg Addr.off e; first | exact h | exact h.symm)).trans (h.ce j hj), fun j => by simp; exact h.fz j⟩
theorem new_cells (w : World) (cs : List Value) (e : TypeId) : ∀ j u, cs[j]? = some u → (w.alloc (.cells cs.toArray e)).cell? ((⟨w.heap.size, 0, none⟩ : Addr).add j) = some u := by
  intro j u h
  have hA : (⟨w.heap.size, 0, none⟩ : Addr).add j = ⟨w.heap.size, j, none⟩ := by
    unfold Addr.add
    split
    · rename_i h0
      subst h0
      rfl
    · simp
  rw [hA, cell_at (heap_alloc_new w (.cells cs.toArray e)) j]
  simpa using h
/-- What the closure leaves: sealed, and the hooks that are on, in order. -/
structure Cl (b : Nat) (m : Int) (L : List S27) (w w' : World) : Prop where
  only : Only (fun j => j = b) w w'
  ce : ∀ j, j ≠ 5 → j ≠ 6 → w'.cell? ⟨b, j, none⟩ = w.cell? ⟨b, j, none⟩
  fz : ∀ j, w'.frozen? ⟨b, j, none⟩ = false
  c5 : w'.cell? ⟨b, 5, none⟩ = some (.bool true)
  so : ∃ so A c, w'.cell? ⟨b, 6, none⟩ = some (.slice A so.length c) ∧ so.length ≤ c ∧ Row w' A so ∧ so.Perm (L.filter (onH m)) ∧ so.Pairwise ltH ∧ ∀ a, A = some a → w.heap.size ≤ a.block ∧ a.block < w'.heap.size
theorem ltH_total {x y : S27} (h : ¬ ltH y x) (hne : x.f0 ≠ y.f0) : ltH x y := by
  by_cases h1 : x.f2 < y.f2
  · exact .inl h1
  · have h2 : ¬ y.f2 < x.f2 := fun a => h (.inl a)
    refine .inr ⟨by omega, ?_⟩
    have h3 : ¬ y.f0.toList < x.f0.toList := fun a => h (.inr ⟨by omega, a⟩)
    refine Decidable.byContradiction fun h4 => hne ?_
    have e := List.le_antisymm (List.not_lt.1 h3) (List.not_lt.1 h4)
    rw [Lib.toList_data, Lib.toList_data] at e
    exact bytes_inj e
theorem uniq_perm {L ys : List S27} (U : Uniq L) {p : S27 → Bool} (h : ys.Perm (L.filter p)) (hp : ys.Pairwise fun x y => ¬ ltH y x) : ys.Pairwise ltH := by
  have h1 : ys.Pairwise fun x y => x.f0 ≠ y.f0 := (h.pairwise_iff (fun {x y} a => Ne.symm a)).2 (U.ne.filter p)
  exact (hp.and h1).imp fun {x y} a => ltH_total a.1 a.2
theorem cl_mk {b g : Nat} {m : Int} {L ss ys : List S27} {w w1 wr w' : World} {A : Option Addr} {v6 : Value} {c : Nat} (hb : b < w.heap.size) (hk1 : Only (fun j => j = b) w w1) (o : ∀ j, j ≠ 5 → w1.cell? ⟨b, j, none⟩ = w.cell? ⟨b, j, none⟩) (f1 : ∀ j, w1.frozen? ⟨b, j, none⟩ = false) (a5 : w1.cell? ⟨b, 5, none⟩ = some (.bool true)) (hs1 : w1.heap.size = w.heap.size)
    (hk : Kp b g w1 wr) (h6 : wr.cell? ⟨b, 6, none⟩ = some v6) (hper : ss.Perm L) (U : Uniq L) (hv : v6 = .slice A ys.length c) (hc : ys.length ≤ c) (hpm : ys.Perm (ss.filter (onH m))) (hpw : ys.Pairwise (fun x y => ¬ ltH y x)) (hrow : Row w' A ys) (hA : ∀ a, A = some a → w1.heap.size + 1 ≤ a.block ∧ a.block < wr.heap.size) (hon : Only (fun j => some j = v6.ownBlock) wr w') : Cl b m L w w' := by
  have hnb : ¬ (some b = v6.ownBlock) := fun e => by
    subst hv
    cases A with
    | none => cases e
    | some a =>
      have h1 := hA a rfl
      have h2 : b = a.block := Option.some.inj e
      omega
  have hbr : b < wr.heap.size := Nat.lt_of_lt_of_le hb (Nat.le_trans hk1.size hk.only.size)
  have hkb : w'.heap[b]? = wr.heap[b]? := hon.block b hbr hnb
  have kc : ∀ j, w'.cell? ⟨b, j, none⟩ = wr.cell? ⟨b, j, none⟩ := fun j => World.cell?_of_block (w := wr) (a := ⟨b, j, none⟩) hkb
  have kf : ∀ j, w'.frozen? ⟨b, j, none⟩ = wr.frozen? ⟨b, j, none⟩ := fun j => World.frozen?_of_block (w := wr) (a := ⟨b, j, none⟩) hkb
  have hpm2 : ys.Perm (L.filter (onH m)) := hpm.trans (hper.filter _)
  refine ⟨⟨hon.os.trans (hk.only.os.trans hk1.os), hon.tape.trans (hk.only.tape.trans hk1.tape), hon.output.trans (hk.only.output.trans hk1.output), Nat.le_trans hk1.size (Nat.le_trans hk.only.size hon.size), fun j hj hn => ?_⟩, fun j h5 h6' => ((kc j).trans (hk.ce j h6')).trans (o j h5), fun j => ((kf j).trans (hk.fz j)).trans (f1 j), ((kc 5).trans (hk.ce 5 (by decide))).trans a5, ys, A, c, ?_, hc, hrow, hpm2, uniq_perm U hpm2 hpw, fun a ha => ?_⟩
  · have h1 := hk1.size
    have h2 := hk.only.size
    refine (hon.block j (by omega) fun e => ?_).trans ((hk.only.block j (by omega) hn).trans (hk1.block j hj hn))
    subst hv
    cases A with
    | none => cases e
    | some a =>
      have h3 := hA a rfl
      have h4 : j = a.block := Option.some.inj e
      omega
  · rw [kc 6, h6, hv]
  · have h1 := hA a ha
    have h2 := hon.size
    exact ⟨by omega, by omega⟩
end Go.Proofs.Ytfhgdjajifnfiaa.PA
