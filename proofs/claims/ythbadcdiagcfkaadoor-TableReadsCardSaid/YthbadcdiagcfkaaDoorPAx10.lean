-- printed by the kit's printer, turned by a program of this session (wip/tools/mkprint.py)
import Derived.Test.YthbadcdiagcfkaaDoorPAx0
import Derived.Test.YthbadcdiagcfkaaDoorPAx2
import Derived.Test.YthbadcdiagcfkaaDoorGLib
import Derived.Test.YthbadcdiagcfkaaDoorGTrims
import Derived.Test.YthbadcdiagcfkaaDoorGMax
import Derived.Test.YthbadcdiagcfkaaDoorGTable
import Derived.Test.YthbadcdiagcfkaaDoorGCells
namespace Go.Proofs.YthbadcdiagcfkaaDoor.PA
open Go.RowKit Go.Proofs.YthbadcdiagcfkaaDoorW.PrintWords Go.Proofs.YthbadcdiagcfkaaDoorW.PrintLast Go.Proofs.YthbadcdiagcfkaaDoorW.PrintMore
attribute [local go_sem] max2_int min2_int max_two min_two max_three min_three max_four min_four   -- for this text's walks alone
set_option linter.unusedVariables false
set_option linter.unusedSimpArgs false

/-! ### incipitlaw15_TableReads: function 7 -/
mutual
def incipitlaw15_TableReads.j0 : Nat → List ByteArray → List ByteArray → Int → Bool → Bool → Option (Bool)
  | 0, _, _, _, _, _ => none
  | k + 1, x0, x1, x2, x7, x37 => if x37 = true then (some x7) else ((some (([] : List ByteArray) : List ByteArray)).bind fun y338 => (if y338.length + x0.length < 8796093022208 then ((some (y338 ++ x0 : List ByteArray)).bind fun y341 => (if y341.length + x1.length < 8796093022208 then (incipitlaw15_TableReads.l0 k x0 x1 x2 x7 (y341 ++ x1) 0) else (none))) else (none)))
def incipitlaw15_TableReads.l0 : Nat → List ByteArray → List ByteArray → Int → Bool → List ByteArray → Int → Option (Bool)
  | 0, _, _, _, _, _, _ => none
  | k + 1, x0, x1, x2, x7, x8, x9 => if x9 < (x8.length : Int) then (if 0 ≤ x9 then (if (rdOf ByteArray.empty x8 x9).toList = ([] : List UInt8) then (incipitlaw15_TableReads.j2 k x0 x1 x2 x7 x8 x9 true) else (incipitlaw15_TableReads.j2 k x0 x1 x2 x7 x8 x9 (decide (((rdOf ByteArray.empty x8 x9).size : Int) > 50)))) else (none)) else (incipitlaw15_TableReads.l2 k x0 x1 x2 x7 (⟨#[124]⟩ : ByteArray) (⟨#[124]⟩ : ByteArray) 0)
def incipitlaw15_TableReads.j2 : Nat → List ByteArray → List ByteArray → Int → Bool → List ByteArray → Int → Bool → Option (Bool)
  | 0, _, _, _, _, _, _, _ => none
  | k + 1, x0, x1, x2, x7, x8, x9, x62 => if x62 = true then (some x7) else (incipitlaw15_TableReads.l1 k x0 x1 x2 x7 x8 x9 0)
def incipitlaw15_TableReads.l1 : Nat → List ByteArray → List ByteArray → Int → Bool → List ByteArray → Int → Int → Option (Bool)
  | 0, _, _, _, _, _, _, _ => none
  | k + 1, x0, x1, x2, x7, x8, x9, x10 => if 0 ≤ x9 then (if x9 < (x8.length : Int) then (if x10 < ((rdOf ByteArray.empty x8 x9).size : Int) then (if 0 ≤ x10 then (if (bt (rdOf ByteArray.empty x8 x9) x10) < 97 then (some x7) else (if (bt (rdOf ByteArray.empty x8 x9) x10) > 122 then (some x7) else (incipitlaw15_TableReads.l1 k x0 x1 x2 x7 x8 x9 (wrap64 (x10 + 1))))) else (none)) else (incipitlaw15_TableReads.l0 k x0 x1 x2 x7 x8 (wrap64 (x9 + 1)))) else (none)) else (none)
def incipitlaw15_TableReads.l2 : Nat → List ByteArray → List ByteArray → Int → Bool → ByteArray → ByteArray → Int → Option (Bool)
  | 0, _, _, _, _, _, _, _ => none
  | k + 1, x0, x1, x2, x7, x11, x12, x13 => if x13 < (x1.length : Int) then (if 0 ≤ x13 then (if x11.size + (rdOf ByteArray.empty x1 x13).size ≤ 9223372036854775807 then (if (x11 ++ (rdOf ByteArray.empty x1 x13)).size + 1 ≤ 9223372036854775807 then (if x12.size + 3 ≤ 9223372036854775807 then (incipitlaw15_TableReads.l2 k x0 x1 x2 x7 ((x11 ++ (rdOf ByteArray.empty x1 x13)) ++ (⟨#[124]⟩ : ByteArray)) (x12 ++ (⟨#[58, 45, 124]⟩ : ByteArray)) (wrap64 (x13 + 1))) else (none)) else (none)) else (none)) else (none)) else (incipitlaw15_TableReads.l3 k x0 x1 x2 x7 x11 x12 (⟨#[]⟩ : ByteArray) 0)
def incipitlaw15_TableReads.l3 : Nat → List ByteArray → List ByteArray → Int → Bool → ByteArray → ByteArray → ByteArray → Int → Option (Bool)
  | 0, _, _, _, _, _, _, _, _ => none
  | k + 1, x0, x1, x2, x7, x11, x12, x14, x15 => if x15 < (x0.length : Int) then (if 0 ≤ x15 then (if x14.size + (rdOf ByteArray.empty x0 x15).size ≤ 9223372036854775807 then (if (x14 ++ (rdOf ByteArray.empty x0 x15)).size + 1 ≤ 9223372036854775807 then (incipitlaw15_TableReads.l3 k x0 x1 x2 x7 x11 x12 ((x14 ++ (rdOf ByteArray.empty x0 x15)) ++ (⟨#[10]⟩ : ByteArray)) (wrap64 (x15 + 1))) else (none)) else (none)) else (none)) else (if x14.size + x11.size ≤ 9223372036854775807 then (if (x14 ++ x11).size + 1 ≤ 9223372036854775807 then (if ((x14 ++ x11) ++ (⟨#[10]⟩ : ByteArray)).size + x12.size ≤ 9223372036854775807 then (incipitlaw15_TableReads.l4 k x1 x7 x11 x14 (((x14 ++ x11) ++ (⟨#[10]⟩ : ByteArray)) ++ x12) (Go.bits .and .i64 x2 7) 0) else (none)) else (none)) else (none))
def incipitlaw15_TableReads.l4 : Nat → List ByteArray → Bool → ByteArray → ByteArray → ByteArray → Int → Int → Option (Bool)
  | 0, _, _, _, _, _, _, _ => none
  | k + 1, x1, x7, x11, x14, x16, x17, x18 => if x18 < x17 then (if x16.size + 1 ≤ 9223372036854775807 then (if (x16 ++ (⟨#[10]⟩ : ByteArray)).size + x11.size ≤ 9223372036854775807 then (incipitlaw15_TableReads.l4 k x1 x7 x11 x14 ((x16 ++ (⟨#[10]⟩ : ByteArray)) ++ x11) x17 (wrap64 (x18 + 1))) else (none)) else (none)) else ((table_Split.f k x16).bind fun bt354 => (if bt354.1.size + 1 ≤ 9223372036854775807 then (if (bt354.1 ++ (⟨#[10]⟩ : ByteArray)).toList = x14.toList then (if (bt354.2.1.length : Int) = (wrap64 (x17 + 1)) then (incipitlaw15_TableReads.j7 k x1 x7 bt354.2.1 bt354.2.2 ((bt354.2.2.length : Int) != (x1.length : Int))) else (incipitlaw15_TableReads.j7 k x1 x7 bt354.2.1 bt354.2.2 true)) else (if x14.toList = ([] : List UInt8) then (if (bt354.1.toList = ([] : List UInt8)) then (if (bt354.2.1.length : Int) = (wrap64 (x17 + 1)) then (incipitlaw15_TableReads.j7 k x1 x7 bt354.2.1 bt354.2.2 ((bt354.2.2.length : Int) != (x1.length : Int))) else (incipitlaw15_TableReads.j7 k x1 x7 bt354.2.1 bt354.2.2 true)) else (incipitlaw15_TableReads.j7 k x1 x7 bt354.2.1 bt354.2.2 true)) else (incipitlaw15_TableReads.j7 k x1 x7 bt354.2.1 bt354.2.2 true))) else (none)))
def incipitlaw15_TableReads.j7 : Nat → List ByteArray → Bool → List (List ByteArray) → List Int → Bool → Option (Bool)
  | 0, _, _, _, _, _ => none
  | k + 1, x1, x7, x20, x21, x167 => if x167 = true then (some false) else (incipitlaw15_TableReads.l5 k x1 x7 x20 x21 0)
def incipitlaw15_TableReads.l5 : Nat → List ByteArray → Bool → List (List ByteArray) → List Int → Int → Option (Bool)
  | 0, _, _, _, _, _ => none
  | k + 1, x1, x7, x20, x21, x22 => if x22 < (x20.length : Int) then (incipitlaw15_TableReads.l6 k x1 x7 x20 x21 x22 0) else (some x7)
def incipitlaw15_TableReads.l6 : Nat → List ByteArray → Bool → List (List ByteArray) → List Int → Int → Int → Option (Bool)
  | 0, _, _, _, _, _, _ => none
  | k + 1, x1, x7, x20, x21, x22, x23 => if x23 < (x1.length : Int) then (if 0 ≤ x22 then (if x22 < (x20.length : Int) then (if 0 ≤ x23 then (if x23 < ((rd_L2 x20 x22).length : Int) then (if (rdOf ByteArray.empty (rd_L2 x20 x22) x23).toList = (rdOf ByteArray.empty x1 x23).toList then (if x23 < (x21.length : Int) then (if (rd x21 x23) = 1 then (incipitlaw15_TableReads.l6 k x1 x7 x20 x21 x22 (wrap64 (x23 + 1))) else (some false)) else (none)) else (some false)) else (none)) else (none)) else (none)) else (none)) else (incipitlaw15_TableReads.l5 k x1 x7 x20 x21 (wrap64 (x22 + 1)))
end
def incipitlaw15_TableReads.f (k : Nat) (l0 : List ByteArray) (l1 : List ByteArray) (a2 : Int) : Option (Bool) := (incipitlaw15_awake.f k).bind fun t337 => (if (l1.length : Int) = 0 then (incipitlaw15_TableReads.j0 k l0 l1 a2 t337 true) else (if (l1.length : Int) > 10 then (incipitlaw15_TableReads.j0 k l0 l1 a2 t337 true) else (incipitlaw15_TableReads.j0 k l0 l1 a2 t337 (decide ((l0.length : Int) > 10)))))
theorem incipitlaw15_TableReads.mono_l : ∀ k, (∀ y0 y1 y2 y3 y4, LeO (incipitlaw15_TableReads.j0 k y0 y1 y2 y3 y4) (incipitlaw15_TableReads.j0 (k + 1) y0 y1 y2 y3 y4)) ∧ (∀ y0 y1 y2 y3 y4 y5, LeO (incipitlaw15_TableReads.l0 k y0 y1 y2 y3 y4 y5) (incipitlaw15_TableReads.l0 (k + 1) y0 y1 y2 y3 y4 y5)) ∧ (∀ y0 y1 y2 y3 y4 y5 y6, LeO (incipitlaw15_TableReads.j2 k y0 y1 y2 y3 y4 y5 y6) (incipitlaw15_TableReads.j2 (k + 1) y0 y1 y2 y3 y4 y5 y6)) ∧ (∀ y0 y1 y2 y3 y4 y5 y6, LeO (incipitlaw15_TableReads.l1 k y0 y1 y2 y3 y4 y5 y6) (incipitlaw15_TableReads.l1 (k + 1) y0 y1 y2 y3 y4 y5 y6)) ∧ (∀ y0 y1 y2 y3 y4 y5 y6, LeO (incipitlaw15_TableReads.l2 k y0 y1 y2 y3 y4 y5 y6) (incipitlaw15_TableReads.l2 (k + 1) y0 y1 y2 y3 y4 y5 y6)) ∧ (∀ y0 y1 y2 y3 y4 y5 y6 y7, LeO (incipitlaw15_TableReads.l3 k y0 y1 y2 y3 y4 y5 y6 y7) (incipitlaw15_TableReads.l3 (k + 1) y0 y1 y2 y3 y4 y5 y6 y7)) ∧ (∀ y0 y1 y2 y3 y4 y5 y6, LeO (incipitlaw15_TableReads.l4 k y0 y1 y2 y3 y4 y5 y6) (incipitlaw15_TableReads.l4 (k + 1) y0 y1 y2 y3 y4 y5 y6)) ∧ (∀ y0 y1 y2 y3 y4, LeO (incipitlaw15_TableReads.j7 k y0 y1 y2 y3 y4) (incipitlaw15_TableReads.j7 (k + 1) y0 y1 y2 y3 y4)) ∧ (∀ y0 y1 y2 y3 y4, LeO (incipitlaw15_TableReads.l5 k y0 y1 y2 y3 y4) (incipitlaw15_TableReads.l5 (k + 1) y0 y1 y2 y3 y4)) ∧ (∀ y0 y1 y2 y3 y4 y5, LeO (incipitlaw15_TableReads.l6 k y0 y1 y2 y3 y4 y5) (incipitlaw15_TableReads.l6 (k + 1) y0 y1 y2 y3 y4 y5))
  | 0 => ⟨fun _ _ _ _ _ r h => by simp [incipitlaw15_TableReads.j0] at h, fun _ _ _ _ _ _ r h => by simp [incipitlaw15_TableReads.l0] at h, fun _ _ _ _ _ _ _ r h => by simp [incipitlaw15_TableReads.j2] at h, fun _ _ _ _ _ _ _ r h => by simp [incipitlaw15_TableReads.l1] at h, fun _ _ _ _ _ _ _ r h => by simp [incipitlaw15_TableReads.l2] at h, fun _ _ _ _ _ _ _ _ r h => by simp [incipitlaw15_TableReads.l3] at h, fun _ _ _ _ _ _ _ r h => by simp [incipitlaw15_TableReads.l4] at h, fun _ _ _ _ _ r h => by simp [incipitlaw15_TableReads.j7] at h, fun _ _ _ _ _ r h => by simp [incipitlaw15_TableReads.l5] at h, fun _ _ _ _ _ _ r h => by simp [incipitlaw15_TableReads.l6] at h⟩
  | k + 1 => by
    obtain ⟨ih0, ih1, ih2, ih3, ih4, ih5, ih6, ih7, ih8, ih9⟩ := incipitlaw15_TableReads.mono_l k
    refine ⟨?_, ?_, ?_, ?_, ?_, ?_, ?_, ?_, ?_, ?_⟩
    · intro y0 y1 y2 y3 y4
      unfold incipitlaw15_TableReads.j0
      repeat' first
      | (with_reducible exact ih0 _ _ _ _ _)
      | (with_reducible exact ih1 _ _ _ _ _ _)
      | (with_reducible exact ih2 _ _ _ _ _ _ _)
      | (with_reducible exact ih3 _ _ _ _ _ _ _)
      | (with_reducible exact ih4 _ _ _ _ _ _ _)
      | (with_reducible exact ih5 _ _ _ _ _ _ _ _)
      | (with_reducible exact ih6 _ _ _ _ _ _ _)
      | (with_reducible exact ih7 _ _ _ _ _)
      | (with_reducible exact ih8 _ _ _ _ _)
      | (with_reducible exact ih9 _ _ _ _ _ _)
      | (with_reducible exact incipitlaw15_awake.mono _)
      | (with_reducible exact table_Split.mono _ _)
      | (with_reducible exact LeO.refl _)
      | (with_reducible exact LeO.none _)
      | (with_reducible refine LeO.ite ?_ ?_)
      | (with_reducible refine LeO.bind ?_ (fun _ => ?_))
      | exact ih0 _ _ _ _ _
      | exact ih1 _ _ _ _ _ _
      | exact ih2 _ _ _ _ _ _ _
      | exact ih3 _ _ _ _ _ _ _
      | exact ih4 _ _ _ _ _ _ _
      | exact ih5 _ _ _ _ _ _ _ _
      | exact ih6 _ _ _ _ _ _ _
      | exact ih7 _ _ _ _ _
      | exact ih8 _ _ _ _ _
      | exact ih9 _ _ _ _ _ _
      | exact incipitlaw15_awake.mono _
      | exact table_Split.mono _ _
      | exact LeO.none _
      | refine LeO.ite ?_ ?_
      | refine LeO.bind ?_ (fun _ => ?_)
    · intro y0 y1 y2 y3 y4 y5
      unfold incipitlaw15_TableReads.l0
      repeat' first
      | (with_reducible exact ih0 _ _ _ _ _)
      | (with_reducible exact ih1 _ _ _ _ _ _)
      | (with_reducible exact ih2 _ _ _ _ _ _ _)
      | (with_reducible exact ih3 _ _ _ _ _ _ _)
      | (with_reducible exact ih4 _ _ _ _ _ _ _)
      | (with_reducible exact ih5 _ _ _ _ _ _ _ _)
      | (with_reducible exact ih6 _ _ _ _ _ _ _)
      | (with_reducible exact ih7 _ _ _ _ _)
      | (with_reducible exact ih8 _ _ _ _ _)
      | (with_reducible exact ih9 _ _ _ _ _ _)
      | (with_reducible exact incipitlaw15_awake.mono _)
      | (with_reducible exact table_Split.mono _ _)
      | (with_reducible exact LeO.refl _)
      | (with_reducible exact LeO.none _)
      | (with_reducible refine LeO.ite ?_ ?_)
      | (with_reducible refine LeO.bind ?_ (fun _ => ?_))
      | exact ih0 _ _ _ _ _
      | exact ih1 _ _ _ _ _ _
      | exact ih2 _ _ _ _ _ _ _
      | exact ih3 _ _ _ _ _ _ _
      | exact ih4 _ _ _ _ _ _ _
      | exact ih5 _ _ _ _ _ _ _ _
      | exact ih6 _ _ _ _ _ _ _
      | exact ih7 _ _ _ _ _
      | exact ih8 _ _ _ _ _
      | exact ih9 _ _ _ _ _ _
      | exact incipitlaw15_awake.mono _
      | exact table_Split.mono _ _
      | exact LeO.none _
      | refine LeO.ite ?_ ?_
      | refine LeO.bind ?_ (fun _ => ?_)
    · intro y0 y1 y2 y3 y4 y5 y6
      unfold incipitlaw15_TableReads.j2
      repeat' first
      | (with_reducible exact ih0 _ _ _ _ _)
      | (with_reducible exact ih1 _ _ _ _ _ _)
      | (with_reducible exact ih2 _ _ _ _ _ _ _)
      | (with_reducible exact ih3 _ _ _ _ _ _ _)
      | (with_reducible exact ih4 _ _ _ _ _ _ _)
      | (with_reducible exact ih5 _ _ _ _ _ _ _ _)
      | (with_reducible exact ih6 _ _ _ _ _ _ _)
      | (with_reducible exact ih7 _ _ _ _ _)
      | (with_reducible exact ih8 _ _ _ _ _)
      | (with_reducible exact ih9 _ _ _ _ _ _)
      | (with_reducible exact incipitlaw15_awake.mono _)
      | (with_reducible exact table_Split.mono _ _)
      | (with_reducible exact LeO.refl _)
      | (with_reducible exact LeO.none _)
      | (with_reducible refine LeO.ite ?_ ?_)
      | (with_reducible refine LeO.bind ?_ (fun _ => ?_))
      | exact ih0 _ _ _ _ _
      | exact ih1 _ _ _ _ _ _
      | exact ih2 _ _ _ _ _ _ _
      | exact ih3 _ _ _ _ _ _ _
      | exact ih4 _ _ _ _ _ _ _
      | exact ih5 _ _ _ _ _ _ _ _
      | exact ih6 _ _ _ _ _ _ _
      | exact ih7 _ _ _ _ _
      | exact ih8 _ _ _ _ _
      | exact ih9 _ _ _ _ _ _
      | exact incipitlaw15_awake.mono _
      | exact table_Split.mono _ _
      | exact LeO.none _
      | refine LeO.ite ?_ ?_
      | refine LeO.bind ?_ (fun _ => ?_)
    · intro y0 y1 y2 y3 y4 y5 y6
      unfold incipitlaw15_TableReads.l1
      repeat' first
      | (with_reducible exact ih0 _ _ _ _ _)
      | (with_reducible exact ih1 _ _ _ _ _ _)
      | (with_reducible exact ih2 _ _ _ _ _ _ _)
      | (with_reducible exact ih3 _ _ _ _ _ _ _)
      | (with_reducible exact ih4 _ _ _ _ _ _ _)
      | (with_reducible exact ih5 _ _ _ _ _ _ _ _)
      | (with_reducible exact ih6 _ _ _ _ _ _ _)
      | (with_reducible exact ih7 _ _ _ _ _)
      | (with_reducible exact ih8 _ _ _ _ _)
      | (with_reducible exact ih9 _ _ _ _ _ _)
      | (with_reducible exact incipitlaw15_awake.mono _)
      | (with_reducible exact table_Split.mono _ _)
      | (with_reducible exact LeO.refl _)
      | (with_reducible exact LeO.none _)
      | (with_reducible refine LeO.ite ?_ ?_)
      | (with_reducible refine LeO.bind ?_ (fun _ => ?_))
      | exact ih0 _ _ _ _ _
      | exact ih1 _ _ _ _ _ _
      | exact ih2 _ _ _ _ _ _ _
      | exact ih3 _ _ _ _ _ _ _
      | exact ih4 _ _ _ _ _ _ _
      | exact ih5 _ _ _ _ _ _ _ _
      | exact ih6 _ _ _ _ _ _ _
      | exact ih7 _ _ _ _ _
      | exact ih8 _ _ _ _ _
      | exact ih9 _ _ _ _ _ _
      | exact incipitlaw15_awake.mono _
      | exact table_Split.mono _ _
      | exact LeO.none _
      | refine LeO.ite ?_ ?_
      | refine LeO.bind ?_ (fun _ => ?_)
    · intro y0 y1 y2 y3 y4 y5 y6
      unfold incipitlaw15_TableReads.l2
      repeat' first
      | (with_reducible exact ih0 _ _ _ _ _)
      | (with_reducible exact ih1 _ _ _ _ _ _)
      | (with_reducible exact ih2 _ _ _ _ _ _ _)
      | (with_reducible exact ih3 _ _ _ _ _ _ _)
      | (with_reducible exact ih4 _ _ _ _ _ _ _)
      | (with_reducible exact ih5 _ _ _ _ _ _ _ _)
      | (with_reducible exact ih6 _ _ _ _ _ _ _)
      | (with_reducible exact ih7 _ _ _ _ _)
      | (with_reducible exact ih8 _ _ _ _ _)
      | (with_reducible exact ih9 _ _ _ _ _ _)
      | (with_reducible exact incipitlaw15_awake.mono _)
      | (with_reducible exact table_Split.mono _ _)
      | (with_reducible exact LeO.refl _)
      | (with_reducible exact LeO.none _)
      | (with_reducible refine LeO.ite ?_ ?_)
      | (with_reducible refine LeO.bind ?_ (fun _ => ?_))
      | exact ih0 _ _ _ _ _
      | exact ih1 _ _ _ _ _ _
      | exact ih2 _ _ _ _ _ _ _
      | exact ih3 _ _ _ _ _ _ _
      | exact ih4 _ _ _ _ _ _ _
      | exact ih5 _ _ _ _ _ _ _ _
      | exact ih6 _ _ _ _ _ _ _
      | exact ih7 _ _ _ _ _
      | exact ih8 _ _ _ _ _
      | exact ih9 _ _ _ _ _ _
      | exact incipitlaw15_awake.mono _
      | exact table_Split.mono _ _
      | exact LeO.none _
      | refine LeO.ite ?_ ?_
      | refine LeO.bind ?_ (fun _ => ?_)
    · intro y0 y1 y2 y3 y4 y5 y6 y7
      unfold incipitlaw15_TableReads.l3
      repeat' first
      | (with_reducible exact ih0 _ _ _ _ _)
      | (with_reducible exact ih1 _ _ _ _ _ _)
      | (with_reducible exact ih2 _ _ _ _ _ _ _)
      | (with_reducible exact ih3 _ _ _ _ _ _ _)
      | (with_reducible exact ih4 _ _ _ _ _ _ _)
      | (with_reducible exact ih5 _ _ _ _ _ _ _ _)
      | (with_reducible exact ih6 _ _ _ _ _ _ _)
      | (with_reducible exact ih7 _ _ _ _ _)
      | (with_reducible exact ih8 _ _ _ _ _)
      | (with_reducible exact ih9 _ _ _ _ _ _)
      | (with_reducible exact incipitlaw15_awake.mono _)
      | (with_reducible exact table_Split.mono _ _)
      | (with_reducible exact LeO.refl _)
      | (with_reducible exact LeO.none _)
      | (with_reducible refine LeO.ite ?_ ?_)
      | (with_reducible refine LeO.bind ?_ (fun _ => ?_))
      | exact ih0 _ _ _ _ _
      | exact ih1 _ _ _ _ _ _
      | exact ih2 _ _ _ _ _ _ _
      | exact ih3 _ _ _ _ _ _ _
      | exact ih4 _ _ _ _ _ _ _
      | exact ih5 _ _ _ _ _ _ _ _
      | exact ih6 _ _ _ _ _ _ _
      | exact ih7 _ _ _ _ _
      | exact ih8 _ _ _ _ _
      | exact ih9 _ _ _ _ _ _
      | exact incipitlaw15_awake.mono _
      | exact table_Split.mono _ _
      | exact LeO.none _
      | refine LeO.ite ?_ ?_
      | refine LeO.bind ?_ (fun _ => ?_)
    · intro y0 y1 y2 y3 y4 y5 y6
      unfold incipitlaw15_TableReads.l4
      repeat' first
      | (with_reducible exact ih0 _ _ _ _ _)
      | (with_reducible exact ih1 _ _ _ _ _ _)
      | (with_reducible exact ih2 _ _ _ _ _ _ _)
      | (with_reducible exact ih3 _ _ _ _ _ _ _)
      | (with_reducible exact ih4 _ _ _ _ _ _ _)
      | (with_reducible exact ih5 _ _ _ _ _ _ _ _)
      | (with_reducible exact ih6 _ _ _ _ _ _ _)
      | (with_reducible exact ih7 _ _ _ _ _)
      | (with_reducible exact ih8 _ _ _ _ _)
      | (with_reducible exact ih9 _ _ _ _ _ _)
      | (with_reducible exact incipitlaw15_awake.mono _)
      | (with_reducible exact table_Split.mono _ _)
      | (with_reducible exact LeO.refl _)
      | (with_reducible exact LeO.none _)
      | (with_reducible refine LeO.ite ?_ ?_)
      | (with_reducible refine LeO.bind ?_ (fun _ => ?_))
      | exact ih0 _ _ _ _ _
      | exact ih1 _ _ _ _ _ _
      | exact ih2 _ _ _ _ _ _ _
      | exact ih3 _ _ _ _ _ _ _
      | exact ih4 _ _ _ _ _ _ _
      | exact ih5 _ _ _ _ _ _ _ _
      | exact ih6 _ _ _ _ _ _ _
      | exact ih7 _ _ _ _ _
      | exact ih8 _ _ _ _ _
      | exact ih9 _ _ _ _ _ _
      | exact incipitlaw15_awake.mono _
      | exact table_Split.mono _ _
      | exact LeO.none _
      | refine LeO.ite ?_ ?_
      | refine LeO.bind ?_ (fun _ => ?_)
    · intro y0 y1 y2 y3 y4
      unfold incipitlaw15_TableReads.j7
      repeat' first
      | (with_reducible exact ih0 _ _ _ _ _)
      | (with_reducible exact ih1 _ _ _ _ _ _)
      | (with_reducible exact ih2 _ _ _ _ _ _ _)
      | (with_reducible exact ih3 _ _ _ _ _ _ _)
      | (with_reducible exact ih4 _ _ _ _ _ _ _)
      | (with_reducible exact ih5 _ _ _ _ _ _ _ _)
      | (with_reducible exact ih6 _ _ _ _ _ _ _)
      | (with_reducible exact ih7 _ _ _ _ _)
      | (with_reducible exact ih8 _ _ _ _ _)
      | (with_reducible exact ih9 _ _ _ _ _ _)
      | (with_reducible exact incipitlaw15_awake.mono _)
      | (with_reducible exact table_Split.mono _ _)
      | (with_reducible exact LeO.refl _)
      | (with_reducible exact LeO.none _)
      | (with_reducible refine LeO.ite ?_ ?_)
      | (with_reducible refine LeO.bind ?_ (fun _ => ?_))
      | exact ih0 _ _ _ _ _
      | exact ih1 _ _ _ _ _ _
      | exact ih2 _ _ _ _ _ _ _
      | exact ih3 _ _ _ _ _ _ _
      | exact ih4 _ _ _ _ _ _ _
      | exact ih5 _ _ _ _ _ _ _ _
      | exact ih6 _ _ _ _ _ _ _
      | exact ih7 _ _ _ _ _
      | exact ih8 _ _ _ _ _
      | exact ih9 _ _ _ _ _ _
      | exact incipitlaw15_awake.mono _
      | exact table_Split.mono _ _
      | exact LeO.none _
      | refine LeO.ite ?_ ?_
      | refine LeO.bind ?_ (fun _ => ?_)
    · intro y0 y1 y2 y3 y4
      unfold incipitlaw15_TableReads.l5
      repeat' first
      | (with_reducible exact ih0 _ _ _ _ _)
      | (with_reducible exact ih1 _ _ _ _ _ _)
      | (with_reducible exact ih2 _ _ _ _ _ _ _)
      | (with_reducible exact ih3 _ _ _ _ _ _ _)
      | (with_reducible exact ih4 _ _ _ _ _ _ _)
      | (with_reducible exact ih5 _ _ _ _ _ _ _ _)
      | (with_reducible exact ih6 _ _ _ _ _ _ _)
      | (with_reducible exact ih7 _ _ _ _ _)
      | (with_reducible exact ih8 _ _ _ _ _)
      | (with_reducible exact ih9 _ _ _ _ _ _)
      | (with_reducible exact incipitlaw15_awake.mono _)
      | (with_reducible exact table_Split.mono _ _)
      | (with_reducible exact LeO.refl _)
      | (with_reducible exact LeO.none _)
      | (with_reducible refine LeO.ite ?_ ?_)
      | (with_reducible refine LeO.bind ?_ (fun _ => ?_))
      | exact ih0 _ _ _ _ _
      | exact ih1 _ _ _ _ _ _
      | exact ih2 _ _ _ _ _ _ _
      | exact ih3 _ _ _ _ _ _ _
      | exact ih4 _ _ _ _ _ _ _
      | exact ih5 _ _ _ _ _ _ _ _
      | exact ih6 _ _ _ _ _ _ _
      | exact ih7 _ _ _ _ _
      | exact ih8 _ _ _ _ _
      | exact ih9 _ _ _ _ _ _
      | exact incipitlaw15_awake.mono _
      | exact table_Split.mono _ _
      | exact LeO.none _
      | refine LeO.ite ?_ ?_
      | refine LeO.bind ?_ (fun _ => ?_)
    · intro y0 y1 y2 y3 y4 y5
      unfold incipitlaw15_TableReads.l6
      repeat' first
      | (with_reducible exact ih0 _ _ _ _ _)
      | (with_reducible exact ih1 _ _ _ _ _ _)
      | (with_reducible exact ih2 _ _ _ _ _ _ _)
      | (with_reducible exact ih3 _ _ _ _ _ _ _)
      | (with_reducible exact ih4 _ _ _ _ _ _ _)
      | (with_reducible exact ih5 _ _ _ _ _ _ _ _)
      | (with_reducible exact ih6 _ _ _ _ _ _ _)
      | (with_reducible exact ih7 _ _ _ _ _)
      | (with_reducible exact ih8 _ _ _ _ _)
      | (with_reducible exact ih9 _ _ _ _ _ _)
      | (with_reducible exact incipitlaw15_awake.mono _)
      | (with_reducible exact table_Split.mono _ _)
      | (with_reducible exact LeO.refl _)
      | (with_reducible exact LeO.none _)
      | (with_reducible refine LeO.ite ?_ ?_)
      | (with_reducible refine LeO.bind ?_ (fun _ => ?_))
      | exact ih0 _ _ _ _ _
      | exact ih1 _ _ _ _ _ _
      | exact ih2 _ _ _ _ _ _ _
      | exact ih3 _ _ _ _ _ _ _
      | exact ih4 _ _ _ _ _ _ _
      | exact ih5 _ _ _ _ _ _ _ _
      | exact ih6 _ _ _ _ _ _ _
      | exact ih7 _ _ _ _ _
      | exact ih8 _ _ _ _ _
      | exact ih9 _ _ _ _ _ _
      | exact incipitlaw15_awake.mono _
      | exact table_Split.mono _ _
      | exact LeO.none _
      | refine LeO.ite ?_ ?_
      | refine LeO.bind ?_ (fun _ => ?_)
theorem incipitlaw15_TableReads.mono : ∀ a0 a1 a2 k, LeO (incipitlaw15_TableReads.f k a0 a1 a2) (incipitlaw15_TableReads.f (k + 1) a0 a1 a2) := by
  intro a0 a1 a2 k
  obtain ⟨ih0, ih1, ih2, ih3, ih4, ih5, ih6, ih7, ih8, ih9⟩ := incipitlaw15_TableReads.mono_l k
  unfold incipitlaw15_TableReads.f
  repeat' first
      | (with_reducible exact ih0 _ _ _ _ _)
      | (with_reducible exact ih1 _ _ _ _ _ _)
      | (with_reducible exact ih2 _ _ _ _ _ _ _)
      | (with_reducible exact ih3 _ _ _ _ _ _ _)
      | (with_reducible exact ih4 _ _ _ _ _ _ _)
      | (with_reducible exact ih5 _ _ _ _ _ _ _ _)
      | (with_reducible exact ih6 _ _ _ _ _ _ _)
      | (with_reducible exact ih7 _ _ _ _ _)
      | (with_reducible exact ih8 _ _ _ _ _)
      | (with_reducible exact ih9 _ _ _ _ _ _)
      | (with_reducible exact incipitlaw15_awake.mono _)
      | (with_reducible exact table_Split.mono _ _)
      | (with_reducible exact LeO.refl _)
      | (with_reducible exact LeO.none _)
      | (with_reducible refine LeO.ite ?_ ?_)
      | (with_reducible refine LeO.bind ?_ (fun _ => ?_))
      | exact ih0 _ _ _ _ _
      | exact ih1 _ _ _ _ _ _
      | exact ih2 _ _ _ _ _ _ _
      | exact ih3 _ _ _ _ _ _ _
      | exact ih4 _ _ _ _ _ _ _
      | exact ih5 _ _ _ _ _ _ _ _
      | exact ih6 _ _ _ _ _ _ _
      | exact ih7 _ _ _ _ _
      | exact ih8 _ _ _ _ _
      | exact ih9 _ _ _ _ _ _
      | exact incipitlaw15_awake.mono _
      | exact table_Split.mono _ _
      | exact LeO.none _
      | refine LeO.ite ?_ ?_
      | refine LeO.bind ?_ (fun _ => ?_)
set_option maxHeartbeats 8000000 in
set_option maxRecDepth 100000 in
theorem incipitlaw15_TableReads.calls (k : Nat) (A0 : Option Addr) (c0 : Nat) (l0 : List ByteArray) (A1 : Option Addr) (c1 : Nat) (l1 : List ByteArray) (a2 : Int) (r : Bool) (w : World) (hLd : Laid w) (hr0 : Kd.C Kd.string w A0 l0.length l0) (hc0 : l0.length ≤ c0) (hr1 : Kd.C Kd.string w A1 l1.length l1) (hc1 : l1.length ≤ c1) (h : incipitlaw15_TableReads.f k l0 l1 a2 = some r) :
    Calls Tryd.prog 7 #[.slice A0 l0.length c0, .slice A1 l1.length c1, .int .i64 a2] w fun e w' => e = .returned (.bool r) ∧ Below w.heap.size w w' := by
  have HR0 := Aside0.mk hr0
  have HC0 := Aside0.mk hc0
  clear hr0 hc0
  have HR1 := Aside0.mk hr1
  have HC1 := Aside0.mk hc1
  clear hr1 hc1
  have HB := Aside0.mk (Below.refl w.heap.size w)
  have H : ((incipitlaw15_awake.f k).bind fun t337 => (if (l1.length : Int) = 0 then (incipitlaw15_TableReads.j0 k l0 l1 a2 t337 true) else (if (l1.length : Int) > 10 then (incipitlaw15_TableReads.j0 k l0 l1 a2 t337 true) else (incipitlaw15_TableReads.j0 k l0 l1 a2 t337 (decide ((l0.length : Int) > 10)))))) = some r := h
  clear h
  replace H := Option.bind_eq_some_iff.mp H
  obtain ⟨t337, A40, H⟩ := H
  replace H : (if (l1.length : Int) = 0 then (incipitlaw15_TableReads.j0 k l0 l1 a2 t337 true) else (if (l1.length : Int) > 10 then (incipitlaw15_TableReads.j0 k l0 l1 a2 t337 true) else (incipitlaw15_TableReads.j0 k l0 l1 a2 t337 (decide ((l0.length : Int) > 10))))) = some r := H
  have A4 := Aside0.mk A40
  clear A40
  have HC5 := Aside0.mk H
  clear H
  go_enter Tryd.func7, Tryd.ntmps7
  go_upto_region 2 with (first | (go_at_call 9; (with_reducible refine (incipitlaw15_awake.calls k  t337 _ ?side1 A4.out).mono ?_); (case side1 => exact Laid.go hLd (by repeat (first | (with_reducible first | exact HB.out | apply below_alloc | apply pw_below_drewN | apply below_drew1) | exact HB.out))); rintro e w6 ⟨rfl, hb⟩; have n0_ := Aside0.mk (below_step (by repeat (first | (with_reducible first | exact HB.out | apply below_alloc | apply pw_below_drewN | apply below_drew1) | exact HB.out)) hb); clear HB; have HB := n0_; clear n0_; (try clear hb); (try clear hb2); (try clear hk); (try clear hi)))
  repeat (go_quiet (first | (go_at_call 9; (with_reducible refine (incipitlaw15_awake.calls k  t337 _ ?side1 A4.out).mono ?_); (case side1 => exact Laid.go hLd (by repeat (first | (with_reducible first | exact HB.out | apply below_alloc | apply pw_below_drewN | apply below_drew1) | exact HB.out))); rintro e w6 ⟨rfl, hb⟩; have n0_ := Aside0.mk (below_step (by repeat (first | (with_reducible first | exact HB.out | apply below_alloc | apply pw_below_drewN | apply below_drew1) | exact HB.out)) hb); clear HB; have HB := n0_; clear n0_; (try clear hb); (try clear hb2); (try clear hk); (try clear hi))); go_upto_region 2 with (first | (go_at_call 9; (with_reducible refine (incipitlaw15_awake.calls k  t337 _ ?side1 A4.out).mono ?_); (case side1 => exact Laid.go hLd (by repeat (first | (with_reducible first | exact HB.out | apply below_alloc | apply pw_below_drewN | apply below_drew1) | exact HB.out))); rintro e w6 ⟨rfl, hb⟩; have n0_ := Aside0.mk (below_step (by repeat (first | (with_reducible first | exact HB.out | apply below_alloc | apply pw_below_drewN | apply below_drew1) | exact HB.out)) hb); clear HB; have HB := n0_; clear n0_; (try clear hb); (try clear hb2); (try clear hk); (try clear hi))))
  (try simp only [Act.put, List.setIfInBounds_toArray, List.set_cons_zero, List.set_cons_succ])
  go_cut [37] (fun v37 wc => ∃ (kq : Nat) (x37_4 : Bool), v37 = .bool x37_4 ∧ Aside0 (incipitlaw15_TableReads.j0 kq l0 l1 a2 t337 x37_4 = some r) ∧ Aside0 (kq ≤ k) ∧ Aside0 (Below w.heap.size w wc))
  case first =>
    have H := HC5.out
    clear HC5
    by_cases c7 : (l1.length : Int) = 0
    · rw [if_pos c7] at H
      have c7b0 : ((l1.length : Int) == 0) = true := beq_iff_eq.mpr c7
      have c7b1 : ((l1.length : Int) != 0) = false := bne_eq_false_iff_eq.mpr c7
      clear c7
      (first | rw [c7b0] | (simp only [i64_w, i32_w]; rw [c7b0]) | skip)
      have H' := Aside0.mk H
      clear H
      go_wp2
      repeat (go_quiet (fail); try go_wp2)
      go_meet
      case rel => exact ⟨_, (true), (by first | rfl | (simp; done) | (simp [*]; done)), H', ⟨by first | omega | exact Nat.le_refl _⟩, ⟨by repeat (first | (with_reducible first | exact HB.out | apply below_alloc | apply pw_below_drewN | apply below_drew1) | exact HB.out)⟩⟩
    · rw [if_neg c7] at H
      have c7b0 : ((l1.length : Int) == 0) = false := beq_eq_false_iff_ne.mpr c7
      have c7b1 : ((l1.length : Int) != 0) = true := bne_iff_ne.mpr c7
      have c7b2 : ¬ (l1 = []) := fun h_ => c7 (by rw [h_]; rfl)
      (first | rw [c7b0] | (simp only [i64_w, i32_w]; rw [c7b0]) | skip)
      by_cases c8 : (l1.length : Int) > 10
      · rw [if_pos c8] at H
        have c8b0 : decide (10 < (l1.length : Int)) = true := decide_eq_true c8
        have c8b1 : decide (10 < l1.length) = true := decide_eq_true (by omega)
        clear c8
        have H' := Aside0.mk H
        clear H
        go_wp2
        repeat (go_quiet (fail); try go_wp2)
        go_meet
        case rel => exact ⟨_, (true), (by first | rfl | (simp; done) | (simp [*]; done)), H', ⟨by first | omega | exact Nat.le_refl _⟩, ⟨by repeat (first | (with_reducible first | exact HB.out | apply below_alloc | apply pw_below_drewN | apply below_drew1) | exact HB.out)⟩⟩
      · rw [if_neg c8] at H
        have c8b0 : decide (10 < (l1.length : Int)) = false := decide_eq_false c8
        have c8b1 : decide (10 < l1.length) = false := decide_eq_false (by omega)
        clear c8
        have H' := Aside0.mk H
        clear H
        go_wp2
        repeat (go_quiet (fail); try go_wp2)
        go_meet
        case rel => exact ⟨_, (decide ((l0.length : Int) > 10)), (by first | rfl | (simp; done) | (simp [*]; done)), H', ⟨by first | omega | exact Nat.le_refl _⟩, ⟨by repeat (first | (with_reducible first | exact HB.out | apply below_alloc | apply pw_below_drewN | apply below_drew1) | exact HB.out)⟩⟩
  case rest =>
    clear HC5
    try clear c1
    try clear p2
    try clear c7
    try clear c7b0
    try clear c7b1
    try clear c7b2
    try clear c8
    try clear c8b0
    try clear c8b1
    obtain ⟨kq, x37_4, rfl, HA, HJ4, HB⟩ := hcut
    cases kq with
    | zero => exact absurd HA.out (by simp [incipitlaw15_TableReads.j0])
    | succ kj4 =>
      have H := HA.out
      clear HA
      simp only [incipitlaw15_TableReads.j0] at H
      by_cases c9 : x37_4 = true
      · subst c9
        have H1 : (some t337) = some r := by rw [if_pos rfl] at H; exact H
        clear H
        have H := H1
        clear H1
        obtain rfl := Option.some.inj H
        go_wp2
        repeat (go_quiet (fail); try go_wp2)
        go_ret
        exact ⟨by first | rfl | (simp [errW_none, errW_some] <;> rfl) | (simp [*, errW_none, errW_some] <;> rfl), by repeat (first | (with_reducible first | exact HB.out | apply below_alloc | apply pw_below_drewN | apply below_drew1) | exact HB.out)⟩
      · replace c9 := Bool.eq_false_iff.mpr c9
        subst c9
        have H1 : ((some (([] : List ByteArray) : List ByteArray)).bind fun y338 => (if y338.length + l0.length < 8796093022208 then ((some (y338 ++ l0 : List ByteArray)).bind fun y341 => (if y341.length + l1.length < 8796093022208 then (incipitlaw15_TableReads.l0 kj4 l0 l1 a2 t337 (y341 ++ l1) 0) else (none))) else (none))) = some r := by rw [if_neg (show ¬ (false = true) by decide)] at H; exact H
        clear H
        have H := H1
        clear H1
        obtain ⟨y338, hy338⟩ : ∃ y_ : List ByteArray, y_ = (([] : List ByteArray)) := ⟨_, rfl⟩
        replace H : (if y338.length + l0.length < 8796093022208 then ((some (y338 ++ l0 : List ByteArray)).bind fun y341 => (if y341.length + l1.length < 8796093022208 then (incipitlaw15_TableReads.l0 kj4 l0 l1 a2 t337 (y341 ++ l1) 0) else (none))) else (none)) = some r := by first | (rw [hy338]; with_reducible exact H) | (have H2_ := (Option.bind_some _ _).symm.trans H; rw [hy338]; with_reducible exact H2_) | (have H2_ := (Option.bind_some _ _).symm.trans H; with_reducible exact H2_) | with_reducible exact H | (rw [hy338]; exact H) | exact H
        have Ny338 := Aside0.mk hy338
        clear hy338
        by_cases c10 : y338.length + l0.length < 8796093022208
        · rw [if_pos c10] at H
          have LMc10 := Aside0.mk c10
          clear c10
          obtain ⟨y341, hy341⟩ : ∃ y_ : List ByteArray, y_ = (y338 ++ l0) := ⟨_, rfl⟩
          replace H : (if y341.length + l1.length < 8796093022208 then (incipitlaw15_TableReads.l0 kj4 l0 l1 a2 t337 (y341 ++ l1) 0) else (none)) = some r := by first | (rw [hy341]; with_reducible exact H) | (have H2_ := (Option.bind_some _ _).symm.trans H; rw [hy341]; with_reducible exact H2_) | (have H2_ := (Option.bind_some _ _).symm.trans H; with_reducible exact H2_) | with_reducible exact H | (rw [hy341]; exact H) | exact H
          have Ny341 := Aside0.mk hy341
          clear hy341
          by_cases c11 : y341.length + l1.length < 8796093022208
          · rw [if_pos c11] at H
            have LMc11 := Aside0.mk c11
            clear c11
            obtain ⟨y344, hy344⟩ : ∃ y_ : List ByteArray, y_ = (y341 ++ l1) := ⟨_, rfl⟩
            replace H : (incipitlaw15_TableReads.l0 kj4 l0 l1 a2 t337 y344 0) = some r := by first | (rw [hy344]; with_reducible exact H) | (have H2_ := (Option.bind_some _ _).symm.trans H; rw [hy344]; with_reducible exact H2_) | (have H2_ := (Option.bind_some _ _).symm.trans H; with_reducible exact H2_) | with_reducible exact H | (rw [hy344]; exact H) | exact H
            have Ny344 := Aside0.mk hy344
            clear hy344
            have H' := Aside0.mk H
            clear H
            go_wp2_with (first | ((with_reducible refine gate_dst (N := 39) rfl ?_); (try (refine gate_guard (by rfl) ?_; dsimp only)); refine Kd.R_lit Kd.string _ 9 ?hg (N := 39) ?hd (xs := ([] : List ByteArray)) (inner := []) (ok := fun _ => True) (okp := fun _ => True) ?hr ?hp (fun _ hk => hk) trivial (Below.refl _ _) (Nat.le_refl _) (by simp) ?_; (case hd => rfl); (case hg => rfl); (case hr => first | (go_simp; done) | (go_simp; rfl)); (case hp => exact (Reps.none _ _)); intro v339 w12 ho13 hb hg_ hnew_; clear hg_ hnew_; (first | rw [← Ny338.out] at ho13 | (simp only [Int.reduceToNat] at ho13; rw [← Ny338.out] at ho13)); have n0_ := Aside0.mk (Kd.R_lower ho13 (below_size (by repeat (first | (with_reducible first | exact HB.out | apply below_alloc | apply pw_below_drewN | apply below_drew1) | exact HB.out)))); have n1_ := Aside0.mk (below_step (by repeat (first | (with_reducible first | exact HB.out | apply below_alloc | apply pw_below_drewN | apply below_drew1) | exact HB.out)) hb); clear HB; have HO340 := n0_; have HB := n1_; clear n0_ n1_; clear hb ho13) | ((with_reducible refine gate_builtin (b := .append) (xs := #[.tmp 39, .tmp 40]) rfl ?_); (try (refine gate_guard (by rfl) ?_; dsimp only)); at_builtin; refine Kd.R_append_rows Kd.string (w0 := w) w.heap.size rfl (.tmp 39) (.tmp 40) 27 9 (.string ⟨#[]⟩) 16 rfl Tryd.underlying27 info9 rfl (by decide) (by omega) v339 y338 l0 _ _ _ (fun _ => True) (fun _ => False) rfl rfl ?aO ?aR (fun _ _ h => h) (fun _ h => h.elim) ?aF ?aB ?aS ?aL ?_; (case aR => repeat (first | exact (Kd.C_below HR0.out HB.out) | (with_reducible refine Kd.C_alloc ?_ _) | (with_reducible refine Kd.C_drewN ?_ _) | (with_reducible refine Kd.C_drew ?_))); (case aB => exact (by repeat (first | (with_reducible first | exact HB.out | apply below_alloc | apply pw_below_drewN | apply below_drew1) | exact HB.out))); (case aF => exact (fun _ _ => trivial)); (case aO => exact (by (with_reducible repeat (first | apply Kd.R_alloc | apply Kd.R_drewN | apply Kd.R_drew)); exact HO340.out)); (case aS => exact (below_size (by repeat (first | (with_reducible first | exact HB.out | apply below_alloc | apply pw_below_drewN | apply below_drew1) | exact HB.out)))); (case aL => have := LMc10.out; omega); intro v342 w14 ho hb hg hat; rw [← Ny341.out] at ho; have n0_ := Aside0.mk (hb); have n1_ := Aside0.mk (ho); clear HB; clear HO340; have HB := n0_; have HO343 := n1_; clear n0_ n1_; clear ho hb hg hat) | ((with_reducible refine gate_builtin (b := .append) (xs := #[.tmp 41, .tmp 42]) rfl ?_); (try (refine gate_guard (by rfl) ?_; dsimp only)); at_builtin; refine Kd.R_append_rows Kd.string (w0 := w) w.heap.size rfl (.tmp 41) (.tmp 42) 27 9 (.string ⟨#[]⟩) 16 rfl Tryd.underlying27 info9 rfl (by decide) (by omega) v342 y341 l1 _ _ _ (fun _ => True) (fun _ => False) rfl rfl ?aO ?aR (fun _ _ h => h) (fun _ h => h.elim) ?aF ?aB ?aS ?aL ?_; (case aR => repeat (first | exact (Kd.C_below HR1.out HB.out) | (with_reducible refine Kd.C_alloc ?_ _) | (with_reducible refine Kd.C_drewN ?_ _) | (with_reducible refine Kd.C_drew ?_))); (case aB => exact (by repeat (first | (with_reducible first | exact HB.out | apply below_alloc | apply pw_below_drewN | apply below_drew1) | exact HB.out))); (case aF => exact (fun _ _ => trivial)); (case aO => exact (by (with_reducible repeat (first | apply Kd.R_alloc | apply Kd.R_drewN | apply Kd.R_drew)); exact HO343.out)); (case aS => exact (below_size (by repeat (first | (with_reducible first | exact HB.out | apply below_alloc | apply pw_below_drewN | apply below_drew1) | exact HB.out)))); (case aL => have := LMc11.out; omega); intro v345 w15 ho hb hg hat; rw [← Ny344.out] at ho; have n0_ := Aside0.mk (hb); have n1_ := Aside0.mk (ho); clear HB; clear HO343; have HB := n0_; have HO346 := n1_; clear n0_ n1_; clear ho hb hg hat))
            repeat (go_quiet (first | ((with_reducible refine gate_dst (N := 39) rfl ?_); (try (refine gate_guard (by rfl) ?_; dsimp only)); refine Kd.R_lit Kd.string _ 9 ?hg (N := 39) ?hd (xs := ([] : List ByteArray)) (inner := []) (ok := fun _ => True) (okp := fun _ => True) ?hr ?hp (fun _ hk => hk) trivial (Below.refl _ _) (Nat.le_refl _) (by simp) ?_; (case hd => rfl); (case hg => rfl); (case hr => first | (go_simp; done) | (go_simp; rfl)); (case hp => exact (Reps.none _ _)); intro v339 w12 ho13 hb hg_ hnew_; clear hg_ hnew_; (first | rw [← Ny338.out] at ho13 | (simp only [Int.reduceToNat] at ho13; rw [← Ny338.out] at ho13)); have n0_ := Aside0.mk (Kd.R_lower ho13 (below_size (by repeat (first | (with_reducible first | exact HB.out | apply below_alloc | apply pw_below_drewN | apply below_drew1) | exact HB.out)))); have n1_ := Aside0.mk (below_step (by repeat (first | (with_reducible first | exact HB.out | apply below_alloc | apply pw_below_drewN | apply below_drew1) | exact HB.out)) hb); clear HB; have HO340 := n0_; have HB := n1_; clear n0_ n1_; clear hb ho13) | ((with_reducible refine gate_builtin (b := .append) (xs := #[.tmp 39, .tmp 40]) rfl ?_); (try (refine gate_guard (by rfl) ?_; dsimp only)); at_builtin; refine Kd.R_append_rows Kd.string (w0 := w) w.heap.size rfl (.tmp 39) (.tmp 40) 27 9 (.string ⟨#[]⟩) 16 rfl Tryd.underlying27 info9 rfl (by decide) (by omega) v339 y338 l0 _ _ _ (fun _ => True) (fun _ => False) rfl rfl ?aO ?aR (fun _ _ h => h) (fun _ h => h.elim) ?aF ?aB ?aS ?aL ?_; (case aR => repeat (first | exact (Kd.C_below HR0.out HB.out) | (with_reducible refine Kd.C_alloc ?_ _) | (with_reducible refine Kd.C_drewN ?_ _) | (with_reducible refine Kd.C_drew ?_))); (case aB => exact (by repeat (first | (with_reducible first | exact HB.out | apply below_alloc | apply pw_below_drewN | apply below_drew1) | exact HB.out))); (case aF => exact (fun _ _ => trivial)); (case aO => exact (by (with_reducible repeat (first | apply Kd.R_alloc | apply Kd.R_drewN | apply Kd.R_drew)); exact HO340.out)); (case aS => exact (below_size (by repeat (first | (with_reducible first | exact HB.out | apply below_alloc | apply pw_below_drewN | apply below_drew1) | exact HB.out)))); (case aL => have := LMc10.out; omega); intro v342 w14 ho hb hg hat; rw [← Ny341.out] at ho; have n0_ := Aside0.mk (hb); have n1_ := Aside0.mk (ho); clear HB; clear HO340; have HB := n0_; have HO343 := n1_; clear n0_ n1_; clear ho hb hg hat) | ((with_reducible refine gate_builtin (b := .append) (xs := #[.tmp 41, .tmp 42]) rfl ?_); (try (refine gate_guard (by rfl) ?_; dsimp only)); at_builtin; refine Kd.R_append_rows Kd.string (w0 := w) w.heap.size rfl (.tmp 41) (.tmp 42) 27 9 (.string ⟨#[]⟩) 16 rfl Tryd.underlying27 info9 rfl (by decide) (by omega) v342 y341 l1 _ _ _ (fun _ => True) (fun _ => False) rfl rfl ?aO ?aR (fun _ _ h => h) (fun _ h => h.elim) ?aF ?aB ?aS ?aL ?_; (case aR => repeat (first | exact (Kd.C_below HR1.out HB.out) | (with_reducible refine Kd.C_alloc ?_ _) | (with_reducible refine Kd.C_drewN ?_ _) | (with_reducible refine Kd.C_drew ?_))); (case aB => exact (by repeat (first | (with_reducible first | exact HB.out | apply below_alloc | apply pw_below_drewN | apply below_drew1) | exact HB.out))); (case aF => exact (fun _ _ => trivial)); (case aO => exact (by (with_reducible repeat (first | apply Kd.R_alloc | apply Kd.R_drewN | apply Kd.R_drew)); exact HO343.out)); (case aS => exact (below_size (by repeat (first | (with_reducible first | exact HB.out | apply below_alloc | apply pw_below_drewN | apply below_drew1) | exact HB.out)))); (case aL => have := LMc11.out; omega); intro v345 w15 ho hb hg hat; rw [← Ny344.out] at ho; have n0_ := Aside0.mk (hb); have n1_ := Aside0.mk (ho); clear HB; clear HO343; have HB := n0_; have HO346 := n1_; clear n0_ n1_; clear ho hb hg hat)); try go_wp2_with (first | ((with_reducible refine gate_dst (N := 39) rfl ?_); (try (refine gate_guard (by rfl) ?_; dsimp only)); refine Kd.R_lit Kd.string _ 9 ?hg (N := 39) ?hd (xs := ([] : List ByteArray)) (inner := []) (ok := fun _ => True) (okp := fun _ => True) ?hr ?hp (fun _ hk => hk) trivial (Below.refl _ _) (Nat.le_refl _) (by simp) ?_; (case hd => rfl); (case hg => rfl); (case hr => first | (go_simp; done) | (go_simp; rfl)); (case hp => exact (Reps.none _ _)); intro v339 w12 ho13 hb hg_ hnew_; clear hg_ hnew_; (first | rw [← Ny338.out] at ho13 | (simp only [Int.reduceToNat] at ho13; rw [← Ny338.out] at ho13)); have n0_ := Aside0.mk (Kd.R_lower ho13 (below_size (by repeat (first | (with_reducible first | exact HB.out | apply below_alloc | apply pw_below_drewN | apply below_drew1) | exact HB.out)))); have n1_ := Aside0.mk (below_step (by repeat (first | (with_reducible first | exact HB.out | apply below_alloc | apply pw_below_drewN | apply below_drew1) | exact HB.out)) hb); clear HB; have HO340 := n0_; have HB := n1_; clear n0_ n1_; clear hb ho13) | ((with_reducible refine gate_builtin (b := .append) (xs := #[.tmp 39, .tmp 40]) rfl ?_); (try (refine gate_guard (by rfl) ?_; dsimp only)); at_builtin; refine Kd.R_append_rows Kd.string (w0 := w) w.heap.size rfl (.tmp 39) (.tmp 40) 27 9 (.string ⟨#[]⟩) 16 rfl Tryd.underlying27 info9 rfl (by decide) (by omega) v339 y338 l0 _ _ _ (fun _ => True) (fun _ => False) rfl rfl ?aO ?aR (fun _ _ h => h) (fun _ h => h.elim) ?aF ?aB ?aS ?aL ?_; (case aR => repeat (first | exact (Kd.C_below HR0.out HB.out) | (with_reducible refine Kd.C_alloc ?_ _) | (with_reducible refine Kd.C_drewN ?_ _) | (with_reducible refine Kd.C_drew ?_))); (case aB => exact (by repeat (first | (with_reducible first | exact HB.out | apply below_alloc | apply pw_below_drewN | apply below_drew1) | exact HB.out))); (case aF => exact (fun _ _ => trivial)); (case aO => exact (by (with_reducible repeat (first | apply Kd.R_alloc | apply Kd.R_drewN | apply Kd.R_drew)); exact HO340.out)); (case aS => exact (below_size (by repeat (first | (with_reducible first | exact HB.out | apply below_alloc | apply pw_below_drewN | apply below_drew1) | exact HB.out)))); (case aL => have := LMc10.out; omega); intro v342 w14 ho hb hg hat; rw [← Ny341.out] at ho; have n0_ := Aside0.mk (hb); have n1_ := Aside0.mk (ho); clear HB; clear HO340; have HB := n0_; have HO343 := n1_; clear n0_ n1_; clear ho hb hg hat) | ((with_reducible refine gate_builtin (b := .append) (xs := #[.tmp 41, .tmp 42]) rfl ?_); (try (refine gate_guard (by rfl) ?_; dsimp only)); at_builtin; refine Kd.R_append_rows Kd.string (w0 := w) w.heap.size rfl (.tmp 41) (.tmp 42) 27 9 (.string ⟨#[]⟩) 16 rfl Tryd.underlying27 info9 rfl (by decide) (by omega) v342 y341 l1 _ _ _ (fun _ => True) (fun _ => False) rfl rfl ?aO ?aR (fun _ _ h => h) (fun _ h => h.elim) ?aF ?aB ?aS ?aL ?_; (case aR => repeat (first | exact (Kd.C_below HR1.out HB.out) | (with_reducible refine Kd.C_alloc ?_ _) | (with_reducible refine Kd.C_drewN ?_ _) | (with_reducible refine Kd.C_drew ?_))); (case aB => exact (by repeat (first | (with_reducible first | exact HB.out | apply below_alloc | apply pw_below_drewN | apply below_drew1) | exact HB.out))); (case aF => exact (fun _ _ => trivial)); (case aO => exact (by (with_reducible repeat (first | apply Kd.R_alloc | apply Kd.R_drewN | apply Kd.R_drew)); exact HO343.out)); (case aS => exact (below_size (by repeat (first | (with_reducible first | exact HB.out | apply below_alloc | apply pw_below_drewN | apply below_drew1) | exact HB.out)))); (case aL => have := LMc11.out; omega); intro v345 w15 ho hb hg hat; rw [← Ny344.out] at ho; have n0_ := Aside0.mk (hb); have n1_ := Aside0.mk (ho); clear HB; clear HO343; have HB := n0_; have HO346 := n1_; clear n0_ n1_; clear ho hb hg hat)))
            go_loopg [9] kj4 (fun kq v9 w' => ∃ (x9_2 : Int), v9 = .int .i64 x9_2 ∧ Aside0 (incipitlaw15_TableReads.l0 kq l0 l1 a2 t337 y344 x9_2 = some r) ∧ Aside0 (kq ≤ kj4) ∧ Aside0 (Kd.R Kd.string 9 w' w.heap.size (fun _ => True) v345 y344) ∧ Aside0 (Below w.heap.size w w'))
            case atStart => exact ⟨(0), (by first | rfl | (simp; done) | (simp [*]; done)), H', ⟨Nat.le_refl _⟩, ⟨by (with_reducible repeat (first | apply Kd.R_alloc | apply Kd.R_drewN | apply Kd.R_drew)); exact HO346.out⟩, ⟨by repeat (first | (with_reducible first | exact HB.out | apply below_alloc | apply pw_below_drewN | apply below_drew1) | exact HB.out)⟩⟩
            case round =>
              clear H'
              try clear c1
              try clear p2
              try clear c7
              try clear c7b0
              try clear c7b1
              try clear c7b2
              try clear c8
              try clear c8b0
              try clear c8b1
              try clear c9
              try clear c10
              try clear c11
              try clear p2
              obtain ⟨x9_2, rfl, HA, HK2, HO_8, HB⟩ := hrel
              cases gk with
              | zero => exact absurd HA.out (by simp [incipitlaw15_TableReads.l0])
              | succ k2 =>
                have H := HA.out
                clear HA
                simp only [incipitlaw15_TableReads.l0] at H
                by_cases c16 : x9_2 < (y344.length : Int)
                · rw [if_pos c16] at H
                  have c16b0 : decide (x9_2 < (y344.length : Int)) = true := decide_eq_true c16
                  clear c16
                  have HC17 := Aside0.mk H
                  clear H
                  obtain ⟨Ao18, co18, eo18⟩ := Kd.R_slice HO_8.out
                  subst eo18
                  go_upto_region 8 with (fail)
                  repeat (go_quiet (fail); go_upto_region 8 with (fail))
                  go_cut [62] (fun v62 wc => ∃ (kq : Nat) (x62_16 : Bool), v62 = .bool x62_16 ∧ Aside0 (incipitlaw15_TableReads.j2 kq l0 l1 a2 t337 y344 x9_2 x62_16 = some r) ∧ Aside0 (kq ≤ k2) ∧ Aside0 (Kd.R Kd.string 9 wc w.heap.size (fun _ => True) (.slice Ao18 y344.length co18) y344) ∧ Aside0 (Below w.heap.size w wc))
                  case first =>
                    have H := HC17.out
                    clear HC17
                    by_cases c19 : 0 ≤ x9_2
                    · rw [if_pos c19] at H
                      have c19b0 : decide (0 ≤ x9_2) = true := decide_eq_true c19
                      clear c19
                      (first | rw [c19b0] | (simp only [i64_w, i32_w]; rw [c19b0]) | skip)
                      by_cases c20 : (rdOf ByteArray.empty y344 x9_2).toList = ([] : List UInt8)
                      · rw [if_pos c20] at H
                        have c20b0 : ((rdOf ByteArray.empty y344 x9_2).toList == ([] : List UInt8)) = true := beq_iff_eq.mpr c20
                        have c20b1 : ((rdOf ByteArray.empty y344 x9_2).toList != ([] : List UInt8)) = false := bne_eq_false_iff_eq.mpr c20
                        clear c20
                        have H' := Aside0.mk H
                        clear H
                        have p347 : 0 ≤ (x9_2 : Int) := of_decide_eq_true (by first | (with_reducible assumption) | assumption)
                        have q347 : x9_2 < (y344.length : Int) := of_decide_eq_true (by first | (with_reducible assumption) | assumption)
                        obtain ⟨ad347, e347, hx347_0⟩ := Kd.at_string (Kd.R_reads' HO_8.out).2.2 x9_2 p347 q347
                        cases e347
                        replace p347 := eq_true p347
                        replace q347 := eq_true q347
                        go_wp2
                        repeat (go_quiet (fail); try go_wp2)
                        go_meet
                        case rel => exact ⟨_, (true), (by first | rfl | (simp; done) | (simp [*]; done)), H', ⟨by have := HJ4.out; have := HK2.out; first | omega | exact Nat.le_refl _⟩, ⟨by (with_reducible repeat (first | apply Kd.R_alloc | apply Kd.R_drewN | apply Kd.R_drew)); exact HO_8.out⟩, ⟨by repeat (first | (with_reducible first | exact HB.out | apply below_alloc | apply pw_below_drewN | apply below_drew1) | exact HB.out)⟩⟩
                      · rw [if_neg c20] at H
                        have c20b0 : ((rdOf ByteArray.empty y344 x9_2).toList == ([] : List UInt8)) = false := beq_eq_false_iff_ne.mpr c20
                        have c20b1 : ((rdOf ByteArray.empty y344 x9_2).toList != ([] : List UInt8)) = true := bne_iff_ne.mpr c20
                        have H' := Aside0.mk H
                        clear H
                        have p347 : 0 ≤ (x9_2 : Int) := of_decide_eq_true (by first | (with_reducible assumption) | assumption)
                        have q347 : x9_2 < (y344.length : Int) := of_decide_eq_true (by first | (with_reducible assumption) | assumption)
                        obtain ⟨ad347, e347, hx347_0⟩ := Kd.at_string (Kd.R_reads' HO_8.out).2.2 x9_2 p347 q347
                        cases e347
                        replace p347 := eq_true p347
                        replace q347 := eq_true q347
                        have p348 : 0 ≤ (x9_2 : Int) := of_decide_eq_true (by first | (with_reducible assumption) | assumption)
                        have q348 : x9_2 < (y344.length : Int) := of_decide_eq_true (by first | (with_reducible assumption) | assumption)
                        obtain ⟨ad348, e348, hx348_0⟩ := Kd.at_string (Kd.R_reads' HO_8.out).2.2 x9_2 p348 q348
                        obtain rfl : ad347 = ad348 := (by injection e348)
                        replace p348 := eq_true p348
                        replace q348 := eq_true q348
                        go_wp2
                        repeat (go_quiet (fail); try go_wp2)
                        go_meet
                        case rel => exact ⟨_, (decide (((rdOf ByteArray.empty y344 x9_2).size : Int) > 50)), (by first | rfl | (simp; done) | (simp [*]; done)), H', ⟨by have := HJ4.out; have := HK2.out; first | omega | exact Nat.le_refl _⟩, ⟨by (with_reducible repeat (first | apply Kd.R_alloc | apply Kd.R_drewN | apply Kd.R_drew)); exact HO_8.out⟩, ⟨by repeat (first | (with_reducible first | exact HB.out | apply below_alloc | apply pw_below_drewN | apply below_drew1) | exact HB.out)⟩⟩
                    · rw [if_neg c19] at H
                      exact absurd H (by simp)
                  case rest =>
                    clear HC17
                    try clear c1
                    try clear c2
                    try clear p2
                    try clear p3
                    try clear q3
                    try clear hx3
                    try clear c7
                    try clear c7b0
                    try clear c7b1
                    try clear c7b2
                    try clear c8
                    try clear c8b0
                    try clear c8b1
                    try clear c9
                    try clear c10
                    try clear c11
                    try clear c16
                    try clear c16b0
                    try clear c19
                    try clear c19b0
                    try clear c20
                    try clear c20b0
                    try clear c20b1
                    try clear hx347_0
                    try clear hx348_0
                    try clear p2
                    try clear p347
                    try clear p348
                    try clear q347
                    try clear q348
                    obtain ⟨kq, x62_16, rfl, HA, HJ16, HO_8, HB⟩ := hcut
                    cases kq with
                    | zero => exact absurd HA.out (by simp [incipitlaw15_TableReads.j2])
                    | succ kj16 =>
                      have H := HA.out
                      clear HA
                      simp only [incipitlaw15_TableReads.j2] at H
                      by_cases c21 : x62_16 = true
                      · subst c21
                        have H1 : (some t337) = some r := by rw [if_pos rfl] at H; exact H
                        clear H
                        have H := H1
                        clear H1
                        obtain rfl := Option.some.inj H
                        go_wp2
                        repeat (go_quiet (fail); try go_wp2)
                        go_ret
                        exact ⟨by first | rfl | (simp [errW_none, errW_some] <;> rfl) | (simp [*, errW_none, errW_some] <;> rfl), by repeat (first | (with_reducible first | exact HB.out | apply below_alloc | apply pw_below_drewN | apply below_drew1) | exact HB.out)⟩
                      · replace c21 := Bool.eq_false_iff.mpr c21
                        subst c21
                        have H1 : (incipitlaw15_TableReads.l1 kj16 l0 l1 a2 t337 y344 x9_2 0) = some r := by rw [if_neg (show ¬ (false = true) by decide)] at H; exact H
                        clear H
                        have H := H1
                        clear H1
                        have H' := Aside0.mk H
                        clear H
                        go_wp2
                        repeat (go_quiet (fail); try go_wp2)
                        go_loopg [10] kj16 (fun kq v10 w' => ∃ (x10_4 : Int), v10 = .int .i64 x10_4 ∧ Aside0 (incipitlaw15_TableReads.l1 kq l0 l1 a2 t337 y344 x9_2 x10_4 = some r) ∧ Aside0 (kq ≤ kj16) ∧ Aside0 (Kd.R Kd.string 9 w' w.heap.size (fun _ => True) (.slice Ao18 y344.length co18) y344) ∧ Aside0 (Below w.heap.size w w'))
                        case atStart => exact ⟨(0), (by first | rfl | (simp; done) | (simp [*]; done)), H', ⟨Nat.le_refl _⟩, ⟨by (with_reducible repeat (first | apply Kd.R_alloc | apply Kd.R_drewN | apply Kd.R_drew)); exact HO_8.out⟩, ⟨by repeat (first | (with_reducible first | exact HB.out | apply below_alloc | apply pw_below_drewN | apply below_drew1) | exact HB.out)⟩⟩
                        case round =>
                          clear H'
                          try clear c1
                          try clear c2
                          try clear p2
                          try clear p3
                          try clear q3
                          try clear hx3
                          try clear c7
                          try clear c7b0
                          try clear c7b1
                          try clear c7b2
                          try clear c8
                          try clear c8b0
                          try clear c8b1
                          try clear c9
                          try clear c10
                          try clear c11
                          try clear c16
                          try clear c16b0
                          try clear c19
                          try clear c19b0
                          try clear c20
                          try clear c20b0
                          try clear c20b1
                          try clear c21
                          try clear hx347_0
                          try clear hx348_0
                          try clear p2
                          try clear p3
                          try clear p347
                          try clear p348
                          try clear q3
                          try clear q347
                          try clear q348
                          obtain ⟨x10_4, rfl, HA, HK4, HO_8, HB⟩ := hrel
                          cases gk with
                          | zero => exact absurd HA.out (by simp [incipitlaw15_TableReads.l1])
                          | succ k4 =>
                            have H := HA.out
                            clear HA
                            simp only [incipitlaw15_TableReads.l1] at H
                            by_cases c22 : 0 ≤ x9_2
                            · rw [if_pos c22] at H
                              have c22b0 : decide (0 ≤ x9_2) = true := decide_eq_true c22
                              clear c22
                              by_cases c23 : x9_2 < (y344.length : Int)
                              · rw [if_pos c23] at H
                                have c23b0 : decide (x9_2 < (y344.length : Int)) = true := decide_eq_true c23
                                clear c23
                                by_cases c24 : x10_4 < ((rdOf ByteArray.empty y344 x9_2).size : Int)
                                · rw [if_pos c24] at H
                                  have c24b0 : decide (x10_4 < ((rdOf ByteArray.empty y344 x9_2).size : Int)) = true := decide_eq_true c24
                                  clear c24
                                  by_cases c25 : 0 ≤ x10_4
                                  · rw [if_pos c25] at H
                                    have c25b0 : decide (0 ≤ x10_4) = true := decide_eq_true c25
                                    clear c25
                                    by_cases c27 : (bt (rdOf ByteArray.empty y344 x9_2) x10_4) < 97
                                    · rw [if_pos c27] at H
                                      have c27b0 : decide ((bt (rdOf ByteArray.empty y344 x9_2) x10_4) < 97) = true := decide_eq_true c27
                                      clear c27
                                      obtain rfl := Option.some.inj H
                                      have p349 : 0 ≤ (x9_2 : Int) := of_decide_eq_true (by first | (with_reducible assumption) | assumption)
                                      have q349 : x9_2 < (y344.length : Int) := of_decide_eq_true (by first | (with_reducible assumption) | assumption)
                                      obtain ⟨ad349, e349, hx349_0⟩ := Kd.at_string (Kd.R_reads' HO_8.out).2.2 x9_2 p349 q349
                                      cases e349
                                      replace p349 := eq_true p349
                                      replace q349 := eq_true q349
                                      have p350 : 0 ≤ (x9_2 : Int) := of_decide_eq_true (by first | (with_reducible assumption) | assumption)
                                      have q350 : x9_2 < (y344.length : Int) := of_decide_eq_true (by first | (with_reducible assumption) | assumption)
                                      obtain ⟨ad350, e350, hx350_0⟩ := Kd.at_string (Kd.R_reads' HO_8.out).2.2 x9_2 p350 q350
                                      obtain rfl : ad349 = ad350 := (by injection e350)
                                      replace p350 := eq_true p350
                                      replace q350 := eq_true q350
                                      have p26 : 0 ≤ (x10_4 : Int) := of_decide_eq_true (by first | (with_reducible assumption) | assumption)
                                      have q26 : x10_4 < ((rdOf ByteArray.empty y344 x9_2).size : Int) := of_decide_eq_true (by first | (with_reducible assumption) | assumption)
                                      have hx26 := bt_at (rdOf ByteArray.empty y344 x9_2) x10_4
                                      replace p26 := eq_true p26
                                      replace q26 := eq_true q26
                                      go_wp2
                                      repeat (go_quiet (fail); try go_wp2)
                                      go_ret
                                      exact ⟨by first | rfl | (simp [errW_none, errW_some] <;> rfl) | (simp [*, errW_none, errW_some] <;> rfl), by repeat (first | (with_reducible first | exact HB.out | apply below_alloc | apply pw_below_drewN | apply below_drew1) | exact HB.out)⟩
                                    · rw [if_neg c27] at H
                                      have c27b0 : decide ((bt (rdOf ByteArray.empty y344 x9_2) x10_4) < 97) = false := decide_eq_false c27
                                      clear c27
                                      by_cases c29 : (bt (rdOf ByteArray.empty y344 x9_2) x10_4) > 122
                                      · rw [if_pos c29] at H
                                        have c29b0 : decide (122 < (bt (rdOf ByteArray.empty y344 x9_2) x10_4)) = true := decide_eq_true c29
                                        clear c29
                                        obtain rfl := Option.some.inj H
                                        have p349 : 0 ≤ (x9_2 : Int) := of_decide_eq_true (by first | (with_reducible assumption) | assumption)
                                        have q349 : x9_2 < (y344.length : Int) := of_decide_eq_true (by first | (with_reducible assumption) | assumption)
                                        obtain ⟨ad349, e349, hx349_0⟩ := Kd.at_string (Kd.R_reads' HO_8.out).2.2 x9_2 p349 q349
                                        cases e349
                                        replace p349 := eq_true p349
                                        replace q349 := eq_true q349
                                        have p350 : 0 ≤ (x9_2 : Int) := of_decide_eq_true (by first | (with_reducible assumption) | assumption)
                                        have q350 : x9_2 < (y344.length : Int) := of_decide_eq_true (by first | (with_reducible assumption) | assumption)
                                        obtain ⟨ad350, e350, hx350_0⟩ := Kd.at_string (Kd.R_reads' HO_8.out).2.2 x9_2 p350 q350
                                        obtain rfl : ad349 = ad350 := (by injection e350)
                                        replace p350 := eq_true p350
                                        replace q350 := eq_true q350
                                        have p26 : 0 ≤ (x10_4 : Int) := of_decide_eq_true (by first | (with_reducible assumption) | assumption)
                                        have q26 : x10_4 < ((rdOf ByteArray.empty y344 x9_2).size : Int) := of_decide_eq_true (by first | (with_reducible assumption) | assumption)
                                        have hx26 := bt_at (rdOf ByteArray.empty y344 x9_2) x10_4
                                        replace p26 := eq_true p26
                                        replace q26 := eq_true q26
                                        have p351 : 0 ≤ (x9_2 : Int) := of_decide_eq_true (by first | (with_reducible assumption) | assumption)
                                        have q351 : x9_2 < (y344.length : Int) := of_decide_eq_true (by first | (with_reducible assumption) | assumption)
                                        obtain ⟨ad351, e351, hx351_0⟩ := Kd.at_string (Kd.R_reads' HO_8.out).2.2 x9_2 p351 q351
                                        obtain rfl : ad349 = ad351 := (by injection e351)
                                        replace p351 := eq_true p351
                                        replace q351 := eq_true q351
                                        have p28 : 0 ≤ (x10_4 : Int) := of_decide_eq_true (by first | (with_reducible assumption) | assumption)
                                        have q28 : x10_4 < ((rdOf ByteArray.empty y344 x9_2).size : Int) := of_decide_eq_true (by first | (with_reducible assumption) | assumption)
                                        have hx28 := bt_at (rdOf ByteArray.empty y344 x9_2) x10_4
                                        replace p28 := eq_true p28
                                        replace q28 := eq_true q28
                                        go_wp2
                                        repeat (go_quiet (fail); try go_wp2)
                                        go_ret
                                        exact ⟨by first | rfl | (simp [errW_none, errW_some] <;> rfl) | (simp [*, errW_none, errW_some] <;> rfl), by repeat (first | (with_reducible first | exact HB.out | apply below_alloc | apply pw_below_drewN | apply below_drew1) | exact HB.out)⟩
                                      · rw [if_neg c29] at H
                                        have c29b0 : decide (122 < (bt (rdOf ByteArray.empty y344 x9_2) x10_4)) = false := decide_eq_false c29
                                        clear c29
                                        have H' := Aside0.mk H
                                        clear H
                                        have p349 : 0 ≤ (x9_2 : Int) := of_decide_eq_true (by first | (with_reducible assumption) | assumption)
                                        have q349 : x9_2 < (y344.length : Int) := of_decide_eq_true (by first | (with_reducible assumption) | assumption)
                                        obtain ⟨ad349, e349, hx349_0⟩ := Kd.at_string (Kd.R_reads' HO_8.out).2.2 x9_2 p349 q349
                                        cases e349
                                        replace p349 := eq_true p349
                                        replace q349 := eq_true q349
                                        have p350 : 0 ≤ (x9_2 : Int) := of_decide_eq_true (by first | (with_reducible assumption) | assumption)
                                        have q350 : x9_2 < (y344.length : Int) := of_decide_eq_true (by first | (with_reducible assumption) | assumption)
                                        obtain ⟨ad350, e350, hx350_0⟩ := Kd.at_string (Kd.R_reads' HO_8.out).2.2 x9_2 p350 q350
                                        obtain rfl : ad349 = ad350 := (by injection e350)
                                        replace p350 := eq_true p350
                                        replace q350 := eq_true q350
                                        have p26 : 0 ≤ (x10_4 : Int) := of_decide_eq_true (by first | (with_reducible assumption) | assumption)
                                        have q26 : x10_4 < ((rdOf ByteArray.empty y344 x9_2).size : Int) := of_decide_eq_true (by first | (with_reducible assumption) | assumption)
                                        have hx26 := bt_at (rdOf ByteArray.empty y344 x9_2) x10_4
                                        replace p26 := eq_true p26
                                        replace q26 := eq_true q26
                                        have p351 : 0 ≤ (x9_2 : Int) := of_decide_eq_true (by first | (with_reducible assumption) | assumption)
                                        have q351 : x9_2 < (y344.length : Int) := of_decide_eq_true (by first | (with_reducible assumption) | assumption)
                                        obtain ⟨ad351, e351, hx351_0⟩ := Kd.at_string (Kd.R_reads' HO_8.out).2.2 x9_2 p351 q351
                                        obtain rfl : ad349 = ad351 := (by injection e351)
                                        replace p351 := eq_true p351
                                        replace q351 := eq_true q351
                                        have p28 : 0 ≤ (x10_4 : Int) := of_decide_eq_true (by first | (with_reducible assumption) | assumption)
                                        have q28 : x10_4 < ((rdOf ByteArray.empty y344 x9_2).size : Int) := of_decide_eq_true (by first | (with_reducible assumption) | assumption)
                                        have hx28 := bt_at (rdOf ByteArray.empty y344 x9_2) x10_4
                                        replace p28 := eq_true p28
                                        replace q28 := eq_true q28
                                        go_wp2
                                        repeat (go_quiet (fail); try go_wp2)
                                        go_roundg k4
                                        case measure => have := HJ4.out; have := HK2.out; have := HJ16.out; have := HK4.out; omega
                                        case rel => exact ⟨(wrap64 (x10_4 + 1)), (by first | rfl | (simp; done) | (simp [*]; done)), H', ⟨by have := HJ4.out; have := HK2.out; have := HJ16.out; have := HK4.out; omega⟩, ⟨by (with_reducible repeat (first | apply Kd.R_alloc | apply Kd.R_drewN | apply Kd.R_drew)); exact HO_8.out⟩, ⟨by repeat (first | (with_reducible first | exact HB.out | apply below_alloc | apply pw_below_drewN | apply below_drew1) | exact HB.out)⟩⟩
                                  · rw [if_neg c25] at H
                                    exact absurd H (by simp)
                                · rw [if_neg c24] at H
                                  have c24b0 : decide (x10_4 < ((rdOf ByteArray.empty y344 x9_2).size : Int)) = false := decide_eq_false c24
                                  clear c24
                                  have H' := Aside0.mk H
                                  clear H
                                  have p349 : 0 ≤ (x9_2 : Int) := of_decide_eq_true (by first | (with_reducible assumption) | assumption)
                                  have q349 : x9_2 < (y344.length : Int) := of_decide_eq_true (by first | (with_reducible assumption) | assumption)
                                  obtain ⟨ad349, e349, hx349_0⟩ := Kd.at_string (Kd.R_reads' HO_8.out).2.2 x9_2 p349 q349
                                  cases e349
                                  replace p349 := eq_true p349
                                  replace q349 := eq_true q349
                                  go_wp2
                                  repeat (go_quiet (fail); try go_wp2)
                                  go_roundg k4
                                  case measure => have := HJ4.out; have := HK2.out; have := HJ16.out; have := HK4.out; omega
                                  case rel => exact ⟨(wrap64 (x9_2 + 1)), (by first | rfl | (simp; done) | (simp [*]; done)), H', ⟨by have := HJ4.out; have := HK2.out; have := HJ16.out; have := HK4.out; omega⟩, ⟨by (with_reducible repeat (first | apply Kd.R_alloc | apply Kd.R_drewN | apply Kd.R_drew)); exact HO_8.out⟩, ⟨by repeat (first | (with_reducible first | exact HB.out | apply below_alloc | apply pw_below_drewN | apply below_drew1) | exact HB.out)⟩⟩
                              · rw [if_neg c23] at H
                                exact absurd H (by simp)
                            · rw [if_neg c22] at H
                              exact absurd H (by simp)
                · rw [if_neg c16] at H
                  have c16b0 : decide (x9_2 < (y344.length : Int)) = false := decide_eq_false c16
                  clear c16
                  have H' := Aside0.mk H
                  clear H
                  obtain ⟨Ao30, co30, eo30⟩ := Kd.R_slice HO_8.out
                  subst eo30
                  go_wp2
                  repeat (go_quiet (fail); try go_wp2)
                  go_loopg [11, 12, 13] k2 (fun kq v11 v12 v13 w' => ∃ (x11_3 : ByteArray) (x12_3 : ByteArray) (x13_3 : Int), v11 = .string x11_3 ∧ v12 = .string x12_3 ∧ v13 = .int .i64 x13_3 ∧ Aside0 (incipitlaw15_TableReads.l2 kq l0 l1 a2 t337 x11_3 x12_3 x13_3 = some r) ∧ Aside0 (kq ≤ k2) ∧ Aside0 (Below w.heap.size w w'))
                  case atStart => exact ⟨((⟨#[124]⟩ : ByteArray)), ((⟨#[124]⟩ : ByteArray)), (0), (by first | rfl | (simp; done) | (simp [*]; done)), (by first | rfl | (simp; done) | (simp [*]; done)), (by first | rfl | (simp; done) | (simp [*]; done)), H', ⟨Nat.le_refl _⟩, ⟨by repeat (first | (with_reducible first | exact HB.out | apply below_alloc | apply pw_below_drewN | apply below_drew1) | exact HB.out)⟩⟩
                  case round =>
                    clear H'
                    try clear c1
                    try clear c2
                    try clear p2
                    try clear q2
                    try clear hx2
                    try clear p3
                    try clear q3
                    try clear hx3
                    try clear p6
                    try clear c7
                    try clear c7b0
                    try clear c7b1
                    try clear c7b2
                    try clear c8
                    try clear c8b0
                    try clear c8b1
                    try clear c9
                    try clear c10
                    try clear c11
                    try clear c16
                    try clear c16b0
                    try clear c19
                    try clear c19b0
                    try clear c20
                    try clear c20b0
                    try clear c20b1
                    try clear c21
                    try clear c22
                    try clear c22b0
                    try clear c23
                    try clear c23b0
                    try clear c24
                    try clear c24b0
                    try clear c25
                    try clear c25b0
                    try clear p26
                    try clear q26
                    try clear hx26
                    try clear c27
                    try clear c27b0
                    try clear p28
                    try clear q28
                    try clear hx28
                    try clear c29
                    try clear c29b0
                    try clear hx347_0
                    try clear hx348_0
                    try clear hx349_0
                    try clear hx350_0
                    try clear hx351_0
                    try clear p2
                    try clear p26
                    try clear p28
                    try clear p3
                    try clear p347
                    try clear p348
                    try clear p349
                    try clear p350
                    try clear p351
                    try clear q26
                    try clear q28
                    try clear q3
                    try clear q347
                    try clear q348
                    try clear q349
                    try clear q350
                    try clear q351
                    obtain ⟨x11_3, x12_3, x13_3, rfl, rfl, rfl, HA, HK3, HB⟩ := hrel
                    cases gk with
                    | zero => exact absurd HA.out (by simp [incipitlaw15_TableReads.l2])
                    | succ k3 =>
                      have H := HA.out
                      clear HA
                      simp only [incipitlaw15_TableReads.l2] at H
                      by_cases c31 : x13_3 < (l1.length : Int)
                      · rw [if_pos c31] at H
                        have c31b0 : decide (x13_3 < (l1.length : Int)) = true := decide_eq_true c31
                        clear c31
                        by_cases c32 : 0 ≤ x13_3
                        · rw [if_pos c32] at H
                          have c32b0 : decide (0 ≤ x13_3) = true := decide_eq_true c32
                          clear c32
                          by_cases c33 : x11_3.size + (rdOf ByteArray.empty l1 x13_3).size ≤ 9223372036854775807
                          · rw [if_pos c33] at H
                            have c33b0 := eq_true c33
                            have c33b1 : decide (x11_3.size + (rdOf ByteArray.empty l1 x13_3).size ≤ 9223372036854775807) = true := decide_eq_true c33
                            try have c33b2 : (9223372036854775807 < x11_3.size + (rdOf ByteArray.empty l1 x13_3).size) = False := eq_false (Nat.not_lt.2 c33)
                            by_cases c34 : (x11_3 ++ (rdOf ByteArray.empty l1 x13_3)).size + 1 ≤ 9223372036854775807
                            · rw [if_pos c34] at H
                              have c34b0 := eq_true c34
                              have c34b1 : decide ((x11_3 ++ (rdOf ByteArray.empty l1 x13_3)).size + 1 ≤ 9223372036854775807) = true := decide_eq_true c34
                              have c34b4 := c34
                              (try simp only [ByteArray.size_append, ByteArray.size_extract, Nat.min_self] at c34b4)
                              (try have c34b5 := Nat.not_lt.2 c34b4)
                              (try have c34b7 : ¬ 9223372036854775807 < x11_3.size + (rdOf ByteArray.empty l1 x13_3).size + 1 := by have hh := c34; simp only [ByteArray.size_append] at hh; exact Nat.not_lt.2 hh)
                              try have c34b2 : (9223372036854775807 < (x11_3 ++ (rdOf ByteArray.empty l1 x13_3)).size + 1) = False := eq_false (Nat.not_lt.2 c34)
                              by_cases c35 : x12_3.size + 3 ≤ 9223372036854775807
                              · rw [if_pos c35] at H
                                have c35b0 := eq_true c35
                                have c35b1 : decide (x12_3.size + 3 ≤ 9223372036854775807) = true := decide_eq_true c35
                                try have c35b2 : (9223372036854775807 < x12_3.size + 3) = False := eq_false (Nat.not_lt.2 c35)
                                have H' := Aside0.mk H
                                clear H
                                have p352 : 0 ≤ (x13_3 : Int) := of_decide_eq_true (by first | (with_reducible assumption) | assumption)
                                have q352 : x13_3 < (l1.length : Int) := of_decide_eq_true (by first | (with_reducible assumption) | assumption)
                                obtain ⟨ad352, e352, hx352_0⟩ := Kd.at_string HR1.out x13_3 p352 q352
                                cases e352
                                replace hx352_0 := (HB.out.cell (World.block_lt_of_cell? w _ hx352_0)).trans hx352_0
                                replace p352 := eq_true p352
                                replace q352 := eq_true q352
                                go_wp2
                                repeat (go_quiet (fail); try go_wp2)
                                go_roundg k3
                                case measure => have := HJ4.out; have := HK2.out; have := HK3.out; omega
                                case rel => exact ⟨((x11_3 ++ (rdOf ByteArray.empty l1 x13_3)) ++ (⟨#[124]⟩ : ByteArray)), (x12_3 ++ (⟨#[58, 45, 124]⟩ : ByteArray)), (wrap64 (x13_3 + 1)), (by first | rfl | (simp; done) | (simp [*]; done)), (by first | rfl | (simp; done) | (simp [*]; done)), (by first | rfl | (simp; done) | (simp [*]; done)), H', ⟨by have := HJ4.out; have := HK2.out; have := HK3.out; omega⟩, ⟨by repeat (first | (with_reducible first | exact HB.out | apply below_alloc | apply pw_below_drewN | apply below_drew1) | exact HB.out)⟩⟩
                              · rw [if_neg c35] at H
                                exact absurd H (by simp)
                            · rw [if_neg c34] at H
                              exact absurd H (by simp)
                          · rw [if_neg c33] at H
                            exact absurd H (by simp)
                        · rw [if_neg c32] at H
                          exact absurd H (by simp)
                      · rw [if_neg c31] at H
                        have c31b0 : decide (x13_3 < (l1.length : Int)) = false := decide_eq_false c31
                        clear c31
                        have H' := Aside0.mk H
                        clear H
                        go_wp2
                        repeat (go_quiet (fail); try go_wp2)
                        go_loopg [14, 15] k3 (fun kq v14 v15 w' => ∃ (x14_4 : ByteArray) (x15_4 : Int), v14 = .string x14_4 ∧ v15 = .int .i64 x15_4 ∧ Aside0 (incipitlaw15_TableReads.l3 kq l0 l1 a2 t337 x11_3 x12_3 x14_4 x15_4 = some r) ∧ Aside0 (kq ≤ k3) ∧ Aside0 (Below w.heap.size w w'))
                        case atStart => exact ⟨((⟨#[]⟩ : ByteArray)), (0), (by first | rfl | (simp; done) | (simp [*]; done)), (by first | rfl | (simp; done) | (simp [*]; done)), H', ⟨Nat.le_refl _⟩, ⟨by repeat (first | (with_reducible first | exact HB.out | apply below_alloc | apply pw_below_drewN | apply below_drew1) | exact HB.out)⟩⟩
                        case round =>
                          clear H'
                          try clear c1
                          try clear c2
                          try clear p2
                          try clear q2
                          try clear hx2
                          try clear c3
                          try clear p3
                          try clear q3
                          try clear hx3
                          try clear p6
                          try clear c7
                          try clear c7b0
                          try clear c7b1
                          try clear c7b2
                          try clear c8
                          try clear c8b0
                          try clear c8b1
                          try clear c9
                          try clear c10
                          try clear c11
                          try clear c16
                          try clear c16b0
                          try clear c19
                          try clear c19b0
                          try clear c20
                          try clear c20b0
                          try clear c20b1
                          try clear c21
                          try clear c22
                          try clear c22b0
                          try clear c23
                          try clear c23b0
                          try clear c24
                          try clear c24b0
                          try clear c25
                          try clear c25b0
                          try clear p26
                          try clear q26
                          try clear hx26
                          try clear c27
                          try clear c27b0
                          try clear p28
                          try clear q28
                          try clear hx28
                          try clear c29
                          try clear c29b0
                          try clear c31
                          try clear c31b0
                          try clear c32
                          try clear c32b0
                          try clear c33
                          try clear c33b0
                          try clear c33b1
                          try clear c33b2
                          try clear c34
                          try clear c34b0
                          try clear c34b1
                          try clear c34b2
                          try clear p34
                          try clear q34
                          try clear hx34
                          try clear c35
                          try clear c35b0
                          try clear c35b1
                          try clear c35b2
                          try clear p35
                          try clear q35
                          try clear hx35
                          try clear hx347_0
                          try clear hx348_0
                          try clear hx349_0
                          try clear hx350_0
                          try clear hx351_0
                          try clear hx352_0
                          try clear p2
                          try clear p26
                          try clear p28
                          try clear p3
                          try clear p347
                          try clear p348
                          try clear p349
                          try clear p350
                          try clear p351
                          try clear p352
                          try clear p6
                          try clear q2
                          try clear q26
                          try clear q28
                          try clear q3
                          try clear q347
                          try clear q348
                          try clear q349
                          try clear q350
                          try clear q351
                          try clear q352
                          obtain ⟨x14_4, x15_4, rfl, rfl, HA, HK4, HB⟩ := hrel
                          cases gk with
                          | zero => exact absurd HA.out (by simp [incipitlaw15_TableReads.l3])
                          | succ k4 =>
                            have H := HA.out
                            clear HA
                            simp only [incipitlaw15_TableReads.l3] at H
                            by_cases c36 : x15_4 < (l0.length : Int)
                            · rw [if_pos c36] at H
                              have c36b0 : decide (x15_4 < (l0.length : Int)) = true := decide_eq_true c36
                              clear c36
                              by_cases c37 : 0 ≤ x15_4
                              · rw [if_pos c37] at H
                                have c37b0 : decide (0 ≤ x15_4) = true := decide_eq_true c37
                                clear c37
                                by_cases c38 : x14_4.size + (rdOf ByteArray.empty l0 x15_4).size ≤ 9223372036854775807
                                · rw [if_pos c38] at H
                                  have c38b0 := eq_true c38
                                  have c38b1 : decide (x14_4.size + (rdOf ByteArray.empty l0 x15_4).size ≤ 9223372036854775807) = true := decide_eq_true c38
                                  try have c38b2 : (9223372036854775807 < x14_4.size + (rdOf ByteArray.empty l0 x15_4).size) = False := eq_false (Nat.not_lt.2 c38)
                                  by_cases c39 : (x14_4 ++ (rdOf ByteArray.empty l0 x15_4)).size + 1 ≤ 9223372036854775807
                                  · rw [if_pos c39] at H
                                    have c39b0 := eq_true c39
                                    have c39b1 : decide ((x14_4 ++ (rdOf ByteArray.empty l0 x15_4)).size + 1 ≤ 9223372036854775807) = true := decide_eq_true c39
                                    have c39b4 := c39
                                    (try simp only [ByteArray.size_append, ByteArray.size_extract, Nat.min_self] at c39b4)
                                    (try have c39b5 := Nat.not_lt.2 c39b4)
                                    (try have c39b7 : ¬ 9223372036854775807 < x14_4.size + (rdOf ByteArray.empty l0 x15_4).size + 1 := by have hh := c39; simp only [ByteArray.size_append] at hh; exact Nat.not_lt.2 hh)
                                    try have c39b2 : (9223372036854775807 < (x14_4 ++ (rdOf ByteArray.empty l0 x15_4)).size + 1) = False := eq_false (Nat.not_lt.2 c39)
                                    have H' := Aside0.mk H
                                    clear H
                                    have p353 : 0 ≤ (x15_4 : Int) := of_decide_eq_true (by first | (with_reducible assumption) | assumption)
                                    have q353 : x15_4 < (l0.length : Int) := of_decide_eq_true (by first | (with_reducible assumption) | assumption)
                                    obtain ⟨ad353, e353, hx353_0⟩ := Kd.at_string HR0.out x15_4 p353 q353
                                    cases e353
                                    replace hx353_0 := (HB.out.cell (World.block_lt_of_cell? w _ hx353_0)).trans hx353_0
                                    replace p353 := eq_true p353
                                    replace q353 := eq_true q353
                                    go_wp2
                                    repeat (go_quiet (fail); try go_wp2)
                                    go_roundg k4
                                    case measure => have := HJ4.out; have := HK2.out; have := HK3.out; have := HK4.out; omega
                                    case rel => exact ⟨((x14_4 ++ (rdOf ByteArray.empty l0 x15_4)) ++ (⟨#[10]⟩ : ByteArray)), (wrap64 (x15_4 + 1)), (by first | rfl | (simp; done) | (simp [*]; done)), (by first | rfl | (simp; done) | (simp [*]; done)), H', ⟨by have := HJ4.out; have := HK2.out; have := HK3.out; have := HK4.out; omega⟩, ⟨by repeat (first | (with_reducible first | exact HB.out | apply below_alloc | apply pw_below_drewN | apply below_drew1) | exact HB.out)⟩⟩
                                  · rw [if_neg c39] at H
                                    exact absurd H (by simp)
                                · rw [if_neg c38] at H
                                  exact absurd H (by simp)
                              · rw [if_neg c37] at H
                                exact absurd H (by simp)
                            · rw [if_neg c36] at H
                              have c36b0 : decide (x15_4 < (l0.length : Int)) = false := decide_eq_false c36
                              clear c36
                              by_cases c40 : x14_4.size + x11_3.size ≤ 9223372036854775807
                              · rw [if_pos c40] at H
                                have c40b0 := eq_true c40
                                have c40b1 : decide (x14_4.size + x11_3.size ≤ 9223372036854775807) = true := decide_eq_true c40
                                try have c40b2 : (9223372036854775807 < x14_4.size + x11_3.size) = False := eq_false (Nat.not_lt.2 c40)
                                by_cases c41 : (x14_4 ++ x11_3).size + 1 ≤ 9223372036854775807
                                · rw [if_pos c41] at H
                                  have c41b0 := eq_true c41
                                  have c41b1 : decide ((x14_4 ++ x11_3).size + 1 ≤ 9223372036854775807) = true := decide_eq_true c41
                                  have c41b4 := c41
                                  (try simp only [ByteArray.size_append, ByteArray.size_extract, Nat.min_self] at c41b4)
                                  (try have c41b5 := Nat.not_lt.2 c41b4)
                                  (try have c41b7 : ¬ 9223372036854775807 < x14_4.size + x11_3.size + 1 := by have hh := c41; simp only [ByteArray.size_append] at hh; exact Nat.not_lt.2 hh)
                                  try have c41b2 : (9223372036854775807 < (x14_4 ++ x11_3).size + 1) = False := eq_false (Nat.not_lt.2 c41)
                                  by_cases c42 : ((x14_4 ++ x11_3) ++ (⟨#[10]⟩ : ByteArray)).size + x12_3.size ≤ 9223372036854775807
                                  · rw [if_pos c42] at H
                                    have c42b0 := eq_true c42
                                    have c42b1 : decide (((x14_4 ++ x11_3) ++ (⟨#[10]⟩ : ByteArray)).size + x12_3.size ≤ 9223372036854775807) = true := decide_eq_true c42
                                    have c42b4 := c42
                                    (try simp only [ByteArray.size_append, ByteArray.size_extract, Nat.min_self] at c42b4)
                                    (try have c42b5 := Nat.not_lt.2 c42b4)
                                    (try have c42b7 : ¬ 9223372036854775807 < x14_4.size + x11_3.size + 1 + x12_3.size := by have hh := c42; simp only [ByteArray.size_append] at hh; exact Nat.not_lt.2 hh)
                                    try have c42b2 : (9223372036854775807 < ((x14_4 ++ x11_3) ++ (⟨#[10]⟩ : ByteArray)).size + x12_3.size) = False := eq_false (Nat.not_lt.2 c42)
                                    have H' := Aside0.mk H
                                    clear H
                                    go_wp2
                                    repeat (go_quiet (fail); try go_wp2)
                                    go_loopg [16, 18] k4 (fun kq v16 v18 w' => ∃ (x16_5 : ByteArray) (x18_5 : Int), v16 = .string x16_5 ∧ v18 = .int .i64 x18_5 ∧ Aside0 (incipitlaw15_TableReads.l4 kq l1 t337 x11_3 x14_4 x16_5 (Go.bits .and .i64 a2 7) x18_5 = some r) ∧ Aside0 (kq ≤ k4) ∧ Aside0 (Below w.heap.size w w'))
                                    case atStart => exact ⟨(((x14_4 ++ x11_3) ++ (⟨#[10]⟩ : ByteArray)) ++ x12_3), (0), (by first | rfl | (simp; done) | (simp [*]; done)), (by first | rfl | (simp; done) | (simp [*]; done)), H', ⟨Nat.le_refl _⟩, ⟨by repeat (first | (with_reducible first | exact HB.out | apply below_alloc | apply pw_below_drewN | apply below_drew1) | exact HB.out)⟩⟩
                                    case round =>
                                      clear H'
                                      try clear c1
                                      try clear c2
                                      try clear p2
                                      try clear q2
                                      try clear hx2
                                      try clear c3
                                      try clear p3
                                      try clear q3
                                      try clear hx3
                                      try clear c4
                                      try clear p6
                                      try clear c7
                                      try clear c7b0
                                      try clear c7b1
                                      try clear c7b2
                                      try clear c8
                                      try clear c8b0
                                      try clear c8b1
                                      try clear c9
                                      try clear c10
                                      try clear c11
                                      try clear c16
                                      try clear c16b0
                                      try clear c19
                                      try clear c19b0
                                      try clear c20
                                      try clear c20b0
                                      try clear c20b1
                                      try clear c21
                                      try clear c22
                                      try clear c22b0
                                      try clear c23
                                      try clear c23b0
                                      try clear c24
                                      try clear c24b0
                                      try clear c25
                                      try clear c25b0
                                      try clear p26
                                      try clear q26
                                      try clear hx26
                                      try clear c27
                                      try clear c27b0
                                      try clear p28
                                      try clear q28
                                      try clear hx28
                                      try clear c29
                                      try clear c29b0
                                      try clear c31
                                      try clear c31b0
                                      try clear c32
                                      try clear c32b0
                                      try clear c33
                                      try clear c33b0
                                      try clear c33b1
                                      try clear c33b2
                                      try clear c34
                                      try clear c34b0
                                      try clear c34b1
                                      try clear c34b2
                                      try clear p34
                                      try clear q34
                                      try clear hx34
                                      try clear c35
                                      try clear c35b0
                                      try clear c35b1
                                      try clear c35b2
                                      try clear p35
                                      try clear q35
                                      try clear hx35
                                      try clear c36
                                      try clear c36b0
                                      try clear c37
                                      try clear c37b0
                                      try clear c38
                                      try clear c38b0
                                      try clear c38b1
                                      try clear c38b2
                                      try clear c39
                                      try clear c39b0
                                      try clear c39b1
                                      try clear c39b2
                                      try clear c40
                                      try clear c40b0
                                      try clear c40b1
                                      try clear c40b2
                                      try clear c41
                                      try clear c41b0
                                      try clear c41b1
                                      try clear c41b2
                                      try clear c42
                                      try clear c42b0
                                      try clear c42b1
                                      try clear c42b2
                                      try clear hx347_0
                                      try clear hx348_0
                                      try clear hx349_0
                                      try clear hx350_0
                                      try clear hx351_0
                                      try clear hx352_0
                                      try clear hx353_0
                                      try clear p2
                                      try clear p26
                                      try clear p28
                                      try clear p3
                                      try clear p34
                                      try clear p347
                                      try clear p348
                                      try clear p349
                                      try clear p35
                                      try clear p350
                                      try clear p351
                                      try clear p352
                                      try clear p353
                                      try clear p6
                                      try clear q2
                                      try clear q26
                                      try clear q28
                                      try clear q3
                                      try clear q34
                                      try clear q347
                                      try clear q348
                                      try clear q349
                                      try clear q35
                                      try clear q350
                                      try clear q351
                                      try clear q352
                                      try clear q353
                                      obtain ⟨x16_5, x18_5, rfl, rfl, HA, HK5, HB⟩ := hrel
                                      cases gk with
                                      | zero => exact absurd HA.out (by simp [incipitlaw15_TableReads.l4])
                                      | succ k5 =>
                                        have H := HA.out
                                        clear HA
                                        simp only [incipitlaw15_TableReads.l4] at H
                                        by_cases c43 : x18_5 < (Go.bits .and .i64 a2 7)
                                        · rw [if_pos c43] at H
                                          have c43b0 : decide (x18_5 < (Go.bits .and .i64 a2 7)) = true := decide_eq_true c43
                                          clear c43
                                          by_cases c44 : x16_5.size + 1 ≤ 9223372036854775807
                                          · rw [if_pos c44] at H
                                            have c44b0 := eq_true c44
                                            have c44b1 : decide (x16_5.size + 1 ≤ 9223372036854775807) = true := decide_eq_true c44
                                            try have c44b2 : (9223372036854775807 < x16_5.size + 1) = False := eq_false (Nat.not_lt.2 c44)
                                            by_cases c45 : (x16_5 ++ (⟨#[10]⟩ : ByteArray)).size + x11_3.size ≤ 9223372036854775807
                                            · rw [if_pos c45] at H
                                              have c45b0 := eq_true c45
                                              have c45b1 : decide ((x16_5 ++ (⟨#[10]⟩ : ByteArray)).size + x11_3.size ≤ 9223372036854775807) = true := decide_eq_true c45
                                              have c45b4 := c45
                                              (try simp only [ByteArray.size_append, ByteArray.size_extract, Nat.min_self] at c45b4)
                                              (try have c45b5 := Nat.not_lt.2 c45b4)
                                              (try have c45b7 : ¬ 9223372036854775807 < x16_5.size + 1 + x11_3.size := by have hh := c45; simp only [ByteArray.size_append] at hh; exact Nat.not_lt.2 hh)
                                              try have c45b2 : (9223372036854775807 < (x16_5 ++ (⟨#[10]⟩ : ByteArray)).size + x11_3.size) = False := eq_false (Nat.not_lt.2 c45)
                                              have H' := Aside0.mk H
                                              clear H
                                              go_wp2
                                              repeat (go_quiet (fail); try go_wp2)
                                              go_roundg k5
                                              case measure => have := HJ4.out; have := HK2.out; have := HK3.out; have := HK4.out; have := HK5.out; omega
                                              case rel => exact ⟨((x16_5 ++ (⟨#[10]⟩ : ByteArray)) ++ x11_3), (wrap64 (x18_5 + 1)), (by first | rfl | (simp; done) | (simp [*]; done)), (by first | rfl | (simp; done) | (simp [*]; done)), H', ⟨by have := HJ4.out; have := HK2.out; have := HK3.out; have := HK4.out; have := HK5.out; omega⟩, ⟨by repeat (first | (with_reducible first | exact HB.out | apply below_alloc | apply pw_below_drewN | apply below_drew1) | exact HB.out)⟩⟩
                                            · rw [if_neg c45] at H
                                              exact absurd H (by simp)
                                          · rw [if_neg c44] at H
                                            exact absurd H (by simp)
                                        · rw [if_neg c43] at H
                                          have c43b0 : decide (x18_5 < (Go.bits .and .i64 a2 7)) = false := decide_eq_false c43
                                          clear c43
                                          replace H := Option.bind_eq_some_iff.mp H
                                          obtain ⟨⟨t354, t355, t358⟩, A460, H⟩ := H
                                          replace H : (if t354.size + 1 ≤ 9223372036854775807 then (if (t354 ++ (⟨#[10]⟩ : ByteArray)).toList = x14_4.toList then (if (t355.length : Int) = (wrap64 ((Go.bits .and .i64 a2 7) + 1)) then (incipitlaw15_TableReads.j7 k5 l1 t337 t355 t358 ((t358.length : Int) != (l1.length : Int))) else (incipitlaw15_TableReads.j7 k5 l1 t337 t355 t358 true)) else (if x14_4.toList = ([] : List UInt8) then (if (t354.toList = ([] : List UInt8)) then (if (t355.length : Int) = (wrap64 ((Go.bits .and .i64 a2 7) + 1)) then (incipitlaw15_TableReads.j7 k5 l1 t337 t355 t358 ((t358.length : Int) != (l1.length : Int))) else (incipitlaw15_TableReads.j7 k5 l1 t337 t355 t358 true)) else (incipitlaw15_TableReads.j7 k5 l1 t337 t355 t358 true)) else (incipitlaw15_TableReads.j7 k5 l1 t337 t355 t358 true))) else (none)) = some r := H
                                          have A46 := Aside0.mk A460
                                          clear A460
                                          have HC47 := Aside0.mk H
                                          clear H
                                          go_upto_region 34 with (first | (go_at_call 16; (with_reducible refine (table_Split.calls k5 x16_5 t354 t355 t358 _ ?side1 A46.out).mono ?_); (case side1 => exact Laid.go hLd (by repeat (first | (with_reducible first | exact HB.out | apply below_alloc | apply pw_below_drewN | apply below_drew1) | exact HB.out))); rintro e w48 ⟨v356, v359, rfl, ho0, ho1, hb⟩; have n0_ := Aside0.mk (Kd.N_lower (Kd.N_mono (ok' := fun k_ => some k_ ≠ (v359 : Value).ownBlock) ho0 (fun k_ hk_ => hk_.2)) (below_size (by repeat (first | (with_reducible first | exact HB.out | apply below_alloc | apply pw_below_drewN | apply below_drew1) | exact HB.out)))); have n1_ := Aside0.mk (Kd.R_lower (Kd.R_mono (ok' := fun k_ => True) ho1 (fun _ hk_ => trivial)) (below_size (by repeat (first | (with_reducible first | exact HB.out | apply below_alloc | apply pw_below_drewN | apply below_drew1) | exact HB.out)))); have n2_ := Aside0.mk (below_step (by repeat (first | (with_reducible first | exact HB.out | apply below_alloc | apply pw_below_drewN | apply below_drew1) | exact HB.out)) hb); clear HB; have HO357 := n0_; have HO360 := n1_; have HB := n2_; clear n0_ n1_ n2_; (try clear hb); (try clear hb2); (try clear hk); (try clear hi); (try clear ho0); (try clear ho1)))
                                          repeat (go_quiet (first | (go_at_call 16; (with_reducible refine (table_Split.calls k5 x16_5 t354 t355 t358 _ ?side1 A46.out).mono ?_); (case side1 => exact Laid.go hLd (by repeat (first | (with_reducible first | exact HB.out | apply below_alloc | apply pw_below_drewN | apply below_drew1) | exact HB.out))); rintro e w48 ⟨v356, v359, rfl, ho0, ho1, hb⟩; have n0_ := Aside0.mk (Kd.N_lower (Kd.N_mono (ok' := fun k_ => some k_ ≠ (v359 : Value).ownBlock) ho0 (fun k_ hk_ => hk_.2)) (below_size (by repeat (first | (with_reducible first | exact HB.out | apply below_alloc | apply pw_below_drewN | apply below_drew1) | exact HB.out)))); have n1_ := Aside0.mk (Kd.R_lower (Kd.R_mono (ok' := fun k_ => True) ho1 (fun _ hk_ => trivial)) (below_size (by repeat (first | (with_reducible first | exact HB.out | apply below_alloc | apply pw_below_drewN | apply below_drew1) | exact HB.out)))); have n2_ := Aside0.mk (below_step (by repeat (first | (with_reducible first | exact HB.out | apply below_alloc | apply pw_below_drewN | apply below_drew1) | exact HB.out)) hb); clear HB; have HO357 := n0_; have HO360 := n1_; have HB := n2_; clear n0_ n1_ n2_; (try clear hb); (try clear hb2); (try clear hk); (try clear hi); (try clear ho0); (try clear ho1))); go_upto_region 34 with (first | (go_at_call 16; (with_reducible refine (table_Split.calls k5 x16_5 t354 t355 t358 _ ?side1 A46.out).mono ?_); (case side1 => exact Laid.go hLd (by repeat (first | (with_reducible first | exact HB.out | apply below_alloc | apply pw_below_drewN | apply below_drew1) | exact HB.out))); rintro e w48 ⟨v356, v359, rfl, ho0, ho1, hb⟩; have n0_ := Aside0.mk (Kd.N_lower (Kd.N_mono (ok' := fun k_ => some k_ ≠ (v359 : Value).ownBlock) ho0 (fun k_ hk_ => hk_.2)) (below_size (by repeat (first | (with_reducible first | exact HB.out | apply below_alloc | apply pw_below_drewN | apply below_drew1) | exact HB.out)))); have n1_ := Aside0.mk (Kd.R_lower (Kd.R_mono (ok' := fun k_ => True) ho1 (fun _ hk_ => trivial)) (below_size (by repeat (first | (with_reducible first | exact HB.out | apply below_alloc | apply pw_below_drewN | apply below_drew1) | exact HB.out)))); have n2_ := Aside0.mk (below_step (by repeat (first | (with_reducible first | exact HB.out | apply below_alloc | apply pw_below_drewN | apply below_drew1) | exact HB.out)) hb); clear HB; have HO357 := n0_; have HO360 := n1_; have HB := n2_; clear n0_ n1_ n2_; (try clear hb); (try clear hb2); (try clear hk); (try clear hi); (try clear ho0); (try clear ho1))))
                                          (try simp only [Act.put, List.setIfInBounds_toArray, List.set_cons_zero, List.set_cons_succ])
                                          go_cut [167] (fun v167 wc => ∃ (kq : Nat) (x167_46 : Bool), v167 = .bool x167_46 ∧ Aside0 (incipitlaw15_TableReads.j7 kq l1 t337 t355 t358 x167_46 = some r) ∧ Aside0 (kq ≤ k5) ∧ Aside0 (Kd.N (Kd.slice 9 Kd.string) 27 wc w.heap.size (fun k_ => some k_ ≠ (v359 : Value).ownBlock) v356 t355) ∧ Aside0 (Kd.R (Kd.int .i64) 3 wc w.heap.size (fun _ => True) v359 t358) ∧ Aside0 (Below w.heap.size w wc))
                                          case first =>
                                            have H := HC47.out
                                            clear HC47
                                            by_cases c49 : t354.size + 1 ≤ 9223372036854775807
                                            · rw [if_pos c49] at H
                                              have c49b0 := eq_true c49
                                              have c49b1 : decide (t354.size + 1 ≤ 9223372036854775807) = true := decide_eq_true c49
                                              try have c49b2 : (9223372036854775807 < t354.size + 1) = False := eq_false (Nat.not_lt.2 c49)
                                              by_cases c50 : (t354 ++ (⟨#[10]⟩ : ByteArray)).toList = x14_4.toList
                                              · rw [if_pos c50] at H
                                                have c50b0 : ((t354 ++ (⟨#[10]⟩ : ByteArray)).toList == x14_4.toList) = true := beq_iff_eq.mpr c50
                                                have c50b1 : ((t354 ++ (⟨#[10]⟩ : ByteArray)).toList != x14_4.toList) = false := bne_eq_false_iff_eq.mpr c50
                                                clear c50
                                                (first | rw [c50b0] | (simp only [i64_w, i32_w]; rw [c50b0]) | skip)
                                                by_cases c51 : (t355.length : Int) = (wrap64 ((Go.bits .and .i64 a2 7) + 1))
                                                · rw [if_pos c51] at H
                                                  have c51b0 : ((t355.length : Int) == (wrap64 ((Go.bits .and .i64 a2 7) + 1))) = true := beq_iff_eq.mpr c51
                                                  have c51b1 : ((t355.length : Int) != (wrap64 ((Go.bits .and .i64 a2 7) + 1))) = false := bne_eq_false_iff_eq.mpr c51
                                                  clear c51
                                                  have H' := Aside0.mk H
                                                  clear H
                                                  obtain ⟨Ao52, co52, eo52⟩ := Kd.N_slice HO357.out
                                                  subst eo52
                                                  obtain ⟨Ao53, co53, eo53⟩ := Kd.R_slice HO360.out
                                                  subst eo53
                                                  go_wp2
                                                  repeat (go_quiet (fail); try go_wp2)
                                                  go_meet
                                                  case rel => exact ⟨_, (((t358.length : Int) != (l1.length : Int))), (by first | rfl | (simp; done) | (simp [*]; done)), H', ⟨by have := HJ4.out; have := HK2.out; have := HK3.out; have := HK4.out; have := HK5.out; first | omega | exact Nat.le_refl _⟩, ⟨by (with_reducible repeat (first | apply Kd.N_alloc | apply Kd.N_drewN | apply Kd.N_drew)); exact HO357.out⟩, ⟨by (with_reducible repeat (first | apply Kd.R_alloc | apply Kd.R_drewN | apply Kd.R_drew)); exact HO360.out⟩, ⟨by repeat (first | (with_reducible first | exact HB.out | apply below_alloc | apply pw_below_drewN | apply below_drew1) | exact HB.out)⟩⟩
                                                · rw [if_neg c51] at H
                                                  have c51b0 : ((t355.length : Int) == (wrap64 ((Go.bits .and .i64 a2 7) + 1))) = false := beq_eq_false_iff_ne.mpr c51
                                                  have c51b1 : ((t355.length : Int) != (wrap64 ((Go.bits .and .i64 a2 7) + 1))) = true := bne_iff_ne.mpr c51
                                                  have H' := Aside0.mk H
                                                  clear H
                                                  obtain ⟨Ao54, co54, eo54⟩ := Kd.N_slice HO357.out
                                                  subst eo54
                                                  go_wp2
                                                  repeat (go_quiet (fail); try go_wp2)
                                                  go_meet
                                                  case rel => exact ⟨_, (true), (by first | rfl | (simp; done) | (simp [*]; done)), H', ⟨by have := HJ4.out; have := HK2.out; have := HK3.out; have := HK4.out; have := HK5.out; first | omega | exact Nat.le_refl _⟩, ⟨by (with_reducible repeat (first | apply Kd.N_alloc | apply Kd.N_drewN | apply Kd.N_drew)); exact HO357.out⟩, ⟨by (with_reducible repeat (first | apply Kd.R_alloc | apply Kd.R_drewN | apply Kd.R_drew)); exact HO360.out⟩, ⟨by repeat (first | (with_reducible first | exact HB.out | apply below_alloc | apply pw_below_drewN | apply below_drew1) | exact HB.out)⟩⟩
                                              · rw [if_neg c50] at H
                                                have c50b0 : ((t354 ++ (⟨#[10]⟩ : ByteArray)).toList == x14_4.toList) = false := beq_eq_false_iff_ne.mpr c50
                                                have c50b1 : ((t354 ++ (⟨#[10]⟩ : ByteArray)).toList != x14_4.toList) = true := bne_iff_ne.mpr c50
                                                (first | rw [c50b0] | (simp only [i64_w, i32_w]; rw [c50b0]) | skip)
                                                by_cases c55 : x14_4.toList = ([] : List UInt8)
                                                · rw [if_pos c55] at H
                                                  have c55b0 : (x14_4.toList == ([] : List UInt8)) = true := beq_iff_eq.mpr c55
                                                  have c55b1 : (x14_4.toList != ([] : List UInt8)) = false := bne_eq_false_iff_eq.mpr c55
                                                  clear c55
                                                  by_cases c56 : (t354.toList = ([] : List UInt8))
                                                  · rw [if_pos c56] at H
                                                    have c56b0 : (t354.toList == ([] : List UInt8)) = true := beq_iff_eq.mpr c56
                                                    have c56b1 : (t354.toList != ([] : List UInt8)) = false := bne_eq_false_iff_eq.mpr c56
                                                    clear c56
                                                    by_cases c57 : (t355.length : Int) = (wrap64 ((Go.bits .and .i64 a2 7) + 1))
                                                    · rw [if_pos c57] at H
                                                      have c57b0 : ((t355.length : Int) == (wrap64 ((Go.bits .and .i64 a2 7) + 1))) = true := beq_iff_eq.mpr c57
                                                      have c57b1 : ((t355.length : Int) != (wrap64 ((Go.bits .and .i64 a2 7) + 1))) = false := bne_eq_false_iff_eq.mpr c57
                                                      clear c57
                                                      have H' := Aside0.mk H
                                                      clear H
                                                      obtain ⟨Ao58, co58, eo58⟩ := Kd.N_slice HO357.out
                                                      subst eo58
                                                      obtain ⟨Ao59, co59, eo59⟩ := Kd.R_slice HO360.out
                                                      subst eo59
                                                      go_wp2
                                                      repeat (go_quiet (fail); try go_wp2)
                                                      go_meet
                                                      case rel => exact ⟨_, (((t358.length : Int) != (l1.length : Int))), (by first | rfl | (simp; done) | (simp [*]; done)), H', ⟨by have := HJ4.out; have := HK2.out; have := HK3.out; have := HK4.out; have := HK5.out; first | omega | exact Nat.le_refl _⟩, ⟨by (with_reducible repeat (first | apply Kd.N_alloc | apply Kd.N_drewN | apply Kd.N_drew)); exact HO357.out⟩, ⟨by (with_reducible repeat (first | apply Kd.R_alloc | apply Kd.R_drewN | apply Kd.R_drew)); exact HO360.out⟩, ⟨by repeat (first | (with_reducible first | exact HB.out | apply below_alloc | apply pw_below_drewN | apply below_drew1) | exact HB.out)⟩⟩
                                                    · rw [if_neg c57] at H
                                                      have c57b0 : ((t355.length : Int) == (wrap64 ((Go.bits .and .i64 a2 7) + 1))) = false := beq_eq_false_iff_ne.mpr c57
                                                      have c57b1 : ((t355.length : Int) != (wrap64 ((Go.bits .and .i64 a2 7) + 1))) = true := bne_iff_ne.mpr c57
                                                      have H' := Aside0.mk H
                                                      clear H
                                                      obtain ⟨Ao60, co60, eo60⟩ := Kd.N_slice HO357.out
                                                      subst eo60
                                                      go_wp2
                                                      repeat (go_quiet (fail); try go_wp2)
                                                      go_meet
                                                      case rel => exact ⟨_, (true), (by first | rfl | (simp; done) | (simp [*]; done)), H', ⟨by have := HJ4.out; have := HK2.out; have := HK3.out; have := HK4.out; have := HK5.out; first | omega | exact Nat.le_refl _⟩, ⟨by (with_reducible repeat (first | apply Kd.N_alloc | apply Kd.N_drewN | apply Kd.N_drew)); exact HO357.out⟩, ⟨by (with_reducible repeat (first | apply Kd.R_alloc | apply Kd.R_drewN | apply Kd.R_drew)); exact HO360.out⟩, ⟨by repeat (first | (with_reducible first | exact HB.out | apply below_alloc | apply pw_below_drewN | apply below_drew1) | exact HB.out)⟩⟩
                                                  · rw [if_neg c56] at H
                                                    have c56b0 : (t354.toList == ([] : List UInt8)) = false := beq_eq_false_iff_ne.mpr c56
                                                    have c56b1 : (t354.toList != ([] : List UInt8)) = true := bne_iff_ne.mpr c56
                                                    have H' := Aside0.mk H
                                                    clear H
                                                    go_wp2
                                                    repeat (go_quiet (fail); try go_wp2)
                                                    go_meet
                                                    case rel => exact ⟨_, (true), (by first | rfl | (simp; done) | (simp [*]; done)), H', ⟨by have := HJ4.out; have := HK2.out; have := HK3.out; have := HK4.out; have := HK5.out; first | omega | exact Nat.le_refl _⟩, ⟨by (with_reducible repeat (first | apply Kd.N_alloc | apply Kd.N_drewN | apply Kd.N_drew)); exact HO357.out⟩, ⟨by (with_reducible repeat (first | apply Kd.R_alloc | apply Kd.R_drewN | apply Kd.R_drew)); exact HO360.out⟩, ⟨by repeat (first | (with_reducible first | exact HB.out | apply below_alloc | apply pw_below_drewN | apply below_drew1) | exact HB.out)⟩⟩
                                                · rw [if_neg c55] at H
                                                  have c55b0 : (x14_4.toList == ([] : List UInt8)) = false := beq_eq_false_iff_ne.mpr c55
                                                  have c55b1 : (x14_4.toList != ([] : List UInt8)) = true := bne_iff_ne.mpr c55
                                                  have H' := Aside0.mk H
                                                  clear H
                                                  go_wp2
                                                  repeat (go_quiet (fail); try go_wp2)
                                                  go_meet
                                                  case rel => exact ⟨_, (true), (by first | rfl | (simp; done) | (simp [*]; done)), H', ⟨by have := HJ4.out; have := HK2.out; have := HK3.out; have := HK4.out; have := HK5.out; first | omega | exact Nat.le_refl _⟩, ⟨by (with_reducible repeat (first | apply Kd.N_alloc | apply Kd.N_drewN | apply Kd.N_drew)); exact HO357.out⟩, ⟨by (with_reducible repeat (first | apply Kd.R_alloc | apply Kd.R_drewN | apply Kd.R_drew)); exact HO360.out⟩, ⟨by repeat (first | (with_reducible first | exact HB.out | apply below_alloc | apply pw_below_drewN | apply below_drew1) | exact HB.out)⟩⟩
                                            · rw [if_neg c49] at H
                                              exact absurd H (by simp)
                                          case rest =>
                                            clear HC47
                                            try clear c1
                                            try clear c2
                                            try clear p2
                                            try clear q2
                                            try clear hx2
                                            try clear c3
                                            try clear p3
                                            try clear q3
                                            try clear hx3
                                            try clear c4
                                            try clear c5
                                            try clear p6
                                            try clear c7
                                            try clear c7b0
                                            try clear c7b1
                                            try clear c7b2
                                            try clear c8
                                            try clear c8b0
                                            try clear c8b1
                                            try clear c9
                                            try clear c10
                                            try clear c11
                                            try clear c16
                                            try clear c16b0
                                            try clear c19
                                            try clear c19b0
                                            try clear c20
                                            try clear c20b0
                                            try clear c20b1
                                            try clear c21
                                            try clear c22
                                            try clear c22b0
                                            try clear c23
                                            try clear c23b0
                                            try clear c24
                                            try clear c24b0
                                            try clear c25
                                            try clear c25b0
                                            try clear p26
                                            try clear q26
                                            try clear hx26
                                            try clear c27
                                            try clear c27b0
                                            try clear p28
                                            try clear q28
                                            try clear hx28
                                            try clear c29
                                            try clear c29b0
                                            try clear c31
                                            try clear c31b0
                                            try clear c32
                                            try clear c32b0
                                            try clear c33
                                            try clear c33b0
                                            try clear c33b1
                                            try clear c33b2
                                            try clear c34
                                            try clear c34b0
                                            try clear c34b1
                                            try clear c34b2
                                            try clear p34
                                            try clear q34
                                            try clear hx34
                                            try clear c35
                                            try clear c35b0
                                            try clear c35b1
                                            try clear c35b2
                                            try clear p35
                                            try clear q35
                                            try clear hx35
                                            try clear c36
                                            try clear c36b0
                                            try clear c37
                                            try clear c37b0
                                            try clear c38
                                            try clear c38b0
                                            try clear c38b1
                                            try clear c38b2
                                            try clear c39
                                            try clear c39b0
                                            try clear c39b1
                                            try clear c39b2
                                            try clear c40
                                            try clear c40b0
                                            try clear c40b1
                                            try clear c40b2
                                            try clear c41
                                            try clear c41b0
                                            try clear c41b1
                                            try clear c41b2
                                            try clear c42
                                            try clear c42b0
                                            try clear c42b1
                                            try clear c42b2
                                            try clear c43
                                            try clear c43b0
                                            try clear c44
                                            try clear c44b0
                                            try clear c44b1
                                            try clear c44b2
                                            try clear c45
                                            try clear c45b0
                                            try clear c45b1
                                            try clear c45b2
                                            try clear c49
                                            try clear c49b0
                                            try clear c49b1
                                            try clear c49b2
                                            try clear c50
                                            try clear c50b0
                                            try clear c50b1
                                            try clear c51
                                            try clear c51b0
                                            try clear c51b1
                                            try clear c55
                                            try clear c55b0
                                            try clear c55b1
                                            try clear c56
                                            try clear c56b0
                                            try clear c56b1
                                            try clear c57
                                            try clear c57b0
                                            try clear c57b1
                                            try clear hx347_0
                                            try clear hx348_0
                                            try clear hx349_0
                                            try clear hx350_0
                                            try clear hx351_0
                                            try clear hx352_0
                                            try clear hx353_0
                                            try clear p2
                                            try clear p26
                                            try clear p28
                                            try clear p3
                                            try clear p34
                                            try clear p347
                                            try clear p348
                                            try clear p349
                                            try clear p35
                                            try clear p350
                                            try clear p351
                                            try clear p352
                                            try clear p353
                                            try clear p6
                                            try clear q2
                                            try clear q26
                                            try clear q28
                                            try clear q3
                                            try clear q34
                                            try clear q347
                                            try clear q348
                                            try clear q349
                                            try clear q35
                                            try clear q350
                                            try clear q351
                                            try clear q352
                                            try clear q353
                                            obtain ⟨kq, x167_46, rfl, HA, HJ46, HO_20, HO_21, HB⟩ := hcut
                                            cases kq with
                                            | zero => exact absurd HA.out (by simp [incipitlaw15_TableReads.j7])
                                            | succ kj46 =>
                                              have H := HA.out
                                              clear HA
                                              simp only [incipitlaw15_TableReads.j7] at H
                                              by_cases c61 : x167_46 = true
                                              · subst c61
                                                have H1 : (some false) = some r := by rw [if_pos rfl] at H; exact H
                                                clear H
                                                have H := H1
                                                clear H1
                                                obtain rfl := Option.some.inj H
                                                go_wp2
                                                repeat (go_quiet (fail); try go_wp2)
                                                go_ret
                                                exact ⟨by first | rfl | (simp [errW_none, errW_some] <;> rfl) | (simp [*, errW_none, errW_some] <;> rfl), by repeat (first | (with_reducible first | exact HB.out | apply below_alloc | apply pw_below_drewN | apply below_drew1) | exact HB.out)⟩
                                              · replace c61 := Bool.eq_false_iff.mpr c61
                                                subst c61
                                                have H1 : (incipitlaw15_TableReads.l5 kj46 l1 t337 t355 t358 0) = some r := by rw [if_neg (show ¬ (false = true) by decide)] at H; exact H
                                                clear H
                                                have H := H1
                                                clear H1
                                                have H' := Aside0.mk H
                                                clear H
                                                go_wp2
                                                repeat (go_quiet (fail); try go_wp2)
                                                go_loopg [22] kj46 (fun kq v22 w' => ∃ (x22_7 : Int), v22 = .int .i64 x22_7 ∧ Aside0 (incipitlaw15_TableReads.l5 kq l1 t337 t355 t358 x22_7 = some r) ∧ Aside0 (kq ≤ kj46) ∧ Aside0 (Kd.N (Kd.slice 9 Kd.string) 27 w' w.heap.size (fun k_ => some k_ ≠ (v359 : Value).ownBlock) v356 t355) ∧ Aside0 (Kd.R (Kd.int .i64) 3 w' w.heap.size (fun _ => True) v359 t358) ∧ Aside0 (Below w.heap.size w w'))
                                                case atStart => exact ⟨(0), (by first | rfl | (simp; done) | (simp [*]; done)), H', ⟨Nat.le_refl _⟩, ⟨by (with_reducible repeat (first | apply Kd.N_alloc | apply Kd.N_drewN | apply Kd.N_drew)); exact HO_20.out⟩, ⟨by (with_reducible repeat (first | apply Kd.R_alloc | apply Kd.R_drewN | apply Kd.R_drew)); exact HO_21.out⟩, ⟨by repeat (first | (with_reducible first | exact HB.out | apply below_alloc | apply pw_below_drewN | apply below_drew1) | exact HB.out)⟩⟩
                                                case round =>
                                                  clear H'
                                                  try clear c1
                                                  try clear c2
                                                  try clear p2
                                                  try clear q2
                                                  try clear hx2
                                                  try clear c3
                                                  try clear p3
                                                  try clear q3
                                                  try clear hx3
                                                  try clear c4
                                                  try clear c5
                                                  try clear c6
                                                  try clear p6
                                                  try clear c7
                                                  try clear c7b0
                                                  try clear c7b1
                                                  try clear c7b2
                                                  try clear c8
                                                  try clear c8b0
                                                  try clear c8b1
                                                  try clear c9
                                                  try clear c10
                                                  try clear c11
                                                  try clear c16
                                                  try clear c16b0
                                                  try clear c19
                                                  try clear c19b0
                                                  try clear c20
                                                  try clear c20b0
                                                  try clear c20b1
                                                  try clear c21
                                                  try clear c22
                                                  try clear c22b0
                                                  try clear c23
                                                  try clear c23b0
                                                  try clear c24
                                                  try clear c24b0
                                                  try clear c25
                                                  try clear c25b0
                                                  try clear p26
                                                  try clear q26
                                                  try clear hx26
                                                  try clear c27
                                                  try clear c27b0
                                                  try clear p28
                                                  try clear q28
                                                  try clear hx28
                                                  try clear c29
                                                  try clear c29b0
                                                  try clear c31
                                                  try clear c31b0
                                                  try clear c32
                                                  try clear c32b0
                                                  try clear c33
                                                  try clear c33b0
                                                  try clear c33b1
                                                  try clear c33b2
                                                  try clear c34
                                                  try clear c34b0
                                                  try clear c34b1
                                                  try clear c34b2
                                                  try clear p34
                                                  try clear q34
                                                  try clear hx34
                                                  try clear c35
                                                  try clear c35b0
                                                  try clear c35b1
                                                  try clear c35b2
                                                  try clear p35
                                                  try clear q35
                                                  try clear hx35
                                                  try clear c36
                                                  try clear c36b0
                                                  try clear c37
                                                  try clear c37b0
                                                  try clear c38
                                                  try clear c38b0
                                                  try clear c38b1
                                                  try clear c38b2
                                                  try clear c39
                                                  try clear c39b0
                                                  try clear c39b1
                                                  try clear c39b2
                                                  try clear c40
                                                  try clear c40b0
                                                  try clear c40b1
                                                  try clear c40b2
                                                  try clear c41
                                                  try clear c41b0
                                                  try clear c41b1
                                                  try clear c41b2
                                                  try clear c42
                                                  try clear c42b0
                                                  try clear c42b1
                                                  try clear c42b2
                                                  try clear c43
                                                  try clear c43b0
                                                  try clear c44
                                                  try clear c44b0
                                                  try clear c44b1
                                                  try clear c44b2
                                                  try clear c45
                                                  try clear c45b0
                                                  try clear c45b1
                                                  try clear c45b2
                                                  try clear c49
                                                  try clear c49b0
                                                  try clear c49b1
                                                  try clear c49b2
                                                  try clear c50
                                                  try clear c50b0
                                                  try clear c50b1
                                                  try clear c51
                                                  try clear c51b0
                                                  try clear c51b1
                                                  try clear c55
                                                  try clear c55b0
                                                  try clear c55b1
                                                  try clear c56
                                                  try clear c56b0
                                                  try clear c56b1
                                                  try clear c57
                                                  try clear c57b0
                                                  try clear c57b1
                                                  try clear c61
                                                  try clear hx347_0
                                                  try clear hx348_0
                                                  try clear hx349_0
                                                  try clear hx350_0
                                                  try clear hx351_0
                                                  try clear hx352_0
                                                  try clear hx353_0
                                                  try clear p2
                                                  try clear p26
                                                  try clear p28
                                                  try clear p3
                                                  try clear p34
                                                  try clear p347
                                                  try clear p348
                                                  try clear p349
                                                  try clear p35
                                                  try clear p350
                                                  try clear p351
                                                  try clear p352
                                                  try clear p353
                                                  try clear p6
                                                  try clear q2
                                                  try clear q26
                                                  try clear q28
                                                  try clear q3
                                                  try clear q34
                                                  try clear q347
                                                  try clear q348
                                                  try clear q349
                                                  try clear q35
                                                  try clear q350
                                                  try clear q351
                                                  try clear q352
                                                  try clear q353
                                                  obtain ⟨x22_7, rfl, HA, HK7, HO_20, HO_21, HB⟩ := hrel
                                                  cases gk with
                                                  | zero => exact absurd HA.out (by simp [incipitlaw15_TableReads.l5])
                                                  | succ k7 =>
                                                    have H := HA.out
                                                    clear HA
                                                    simp only [incipitlaw15_TableReads.l5] at H
                                                    by_cases c62 : x22_7 < (t355.length : Int)
                                                    · rw [if_pos c62] at H
                                                      have c62b0 : decide (x22_7 < (t355.length : Int)) = true := decide_eq_true c62
                                                      clear c62
                                                      have H' := Aside0.mk H
                                                      clear H
                                                      obtain ⟨Ao63, co63, eo63⟩ := Kd.N_slice HO_20.out
                                                      subst eo63
                                                      go_wp2
                                                      repeat (go_quiet (fail); try go_wp2)
                                                      go_loopg [23] k7 (fun kq v23 w' => ∃ (x23_8 : Int), v23 = .int .i64 x23_8 ∧ Aside0 (incipitlaw15_TableReads.l6 kq l1 t337 t355 t358 x22_7 x23_8 = some r) ∧ Aside0 (kq ≤ k7) ∧ Aside0 (Kd.N (Kd.slice 9 Kd.string) 27 w' w.heap.size (fun k_ => some k_ ≠ (v359 : Value).ownBlock) (.slice Ao63 t355.length co63) t355) ∧ Aside0 (Kd.R (Kd.int .i64) 3 w' w.heap.size (fun _ => True) v359 t358) ∧ Aside0 (Below w.heap.size w w'))
                                                      case atStart => exact ⟨(0), (by first | rfl | (simp; done) | (simp [*]; done)), H', ⟨Nat.le_refl _⟩, ⟨by (with_reducible repeat (first | apply Kd.N_alloc | apply Kd.N_drewN | apply Kd.N_drew)); exact HO_20.out⟩, ⟨by (with_reducible repeat (first | apply Kd.R_alloc | apply Kd.R_drewN | apply Kd.R_drew)); exact HO_21.out⟩, ⟨by repeat (first | (with_reducible first | exact HB.out | apply below_alloc | apply pw_below_drewN | apply below_drew1) | exact HB.out)⟩⟩
                                                      case round =>
                                                        clear H'
                                                        try clear c1
                                                        try clear c2
                                                        try clear p2
                                                        try clear q2
                                                        try clear hx2
                                                        try clear c3
                                                        try clear p3
                                                        try clear q3
                                                        try clear hx3
                                                        try clear c4
                                                        try clear c5
                                                        try clear c6
                                                        try clear p6
                                                        try clear c7
                                                        try clear c7b0
                                                        try clear c7b1
                                                        try clear c7b2
                                                        try clear c8
                                                        try clear c8b0
                                                        try clear c8b1
                                                        try clear c9
                                                        try clear c10
                                                        try clear c11
                                                        try clear c16
                                                        try clear c16b0
                                                        try clear c19
                                                        try clear c19b0
                                                        try clear c20
                                                        try clear c20b0
                                                        try clear c20b1
                                                        try clear c21
                                                        try clear c22
                                                        try clear c22b0
                                                        try clear c23
                                                        try clear c23b0
                                                        try clear c24
                                                        try clear c24b0
                                                        try clear c25
                                                        try clear c25b0
                                                        try clear p26
                                                        try clear q26
                                                        try clear hx26
                                                        try clear c27
                                                        try clear c27b0
                                                        try clear p28
                                                        try clear q28
                                                        try clear hx28
                                                        try clear c29
                                                        try clear c29b0
                                                        try clear c31
                                                        try clear c31b0
                                                        try clear c32
                                                        try clear c32b0
                                                        try clear c33
                                                        try clear c33b0
                                                        try clear c33b1
                                                        try clear c33b2
                                                        try clear c34
                                                        try clear c34b0
                                                        try clear c34b1
                                                        try clear c34b2
                                                        try clear p34
                                                        try clear q34
                                                        try clear hx34
                                                        try clear c35
                                                        try clear c35b0
                                                        try clear c35b1
                                                        try clear c35b2
                                                        try clear p35
                                                        try clear q35
                                                        try clear hx35
                                                        try clear c36
                                                        try clear c36b0
                                                        try clear c37
                                                        try clear c37b0
                                                        try clear c38
                                                        try clear c38b0
                                                        try clear c38b1
                                                        try clear c38b2
                                                        try clear c39
                                                        try clear c39b0
                                                        try clear c39b1
                                                        try clear c39b2
                                                        try clear c40
                                                        try clear c40b0
                                                        try clear c40b1
                                                        try clear c40b2
                                                        try clear c41
                                                        try clear c41b0
                                                        try clear c41b1
                                                        try clear c41b2
                                                        try clear c42
                                                        try clear c42b0
                                                        try clear c42b1
                                                        try clear c42b2
                                                        try clear c43
                                                        try clear c43b0
                                                        try clear c44
                                                        try clear c44b0
                                                        try clear c44b1
                                                        try clear c44b2
                                                        try clear c45
                                                        try clear c45b0
                                                        try clear c45b1
                                                        try clear c45b2
                                                        try clear c49
                                                        try clear c49b0
                                                        try clear c49b1
                                                        try clear c49b2
                                                        try clear c50
                                                        try clear c50b0
                                                        try clear c50b1
                                                        try clear c51
                                                        try clear c51b0
                                                        try clear c51b1
                                                        try clear c55
                                                        try clear c55b0
                                                        try clear c55b1
                                                        try clear c56
                                                        try clear c56b0
                                                        try clear c56b1
                                                        try clear c57
                                                        try clear c57b0
                                                        try clear c57b1
                                                        try clear c61
                                                        try clear c62
                                                        try clear c62b0
                                                        try clear hx347_0
                                                        try clear hx348_0
                                                        try clear hx349_0
                                                        try clear hx350_0
                                                        try clear hx351_0
                                                        try clear hx352_0
                                                        try clear hx353_0
                                                        try clear p2
                                                        try clear p26
                                                        try clear p28
                                                        try clear p3
                                                        try clear p34
                                                        try clear p347
                                                        try clear p348
                                                        try clear p349
                                                        try clear p35
                                                        try clear p350
                                                        try clear p351
                                                        try clear p352
                                                        try clear p353
                                                        try clear p6
                                                        try clear q2
                                                        try clear q26
                                                        try clear q28
                                                        try clear q3
                                                        try clear q34
                                                        try clear q347
                                                        try clear q348
                                                        try clear q349
                                                        try clear q35
                                                        try clear q350
                                                        try clear q351
                                                        try clear q352
                                                        try clear q353
                                                        obtain ⟨x23_8, rfl, HA, HK8, HO_20, HO_21, HB⟩ := hrel
                                                        cases gk with
                                                        | zero => exact absurd HA.out (by simp [incipitlaw15_TableReads.l6])
                                                        | succ k8 =>
                                                          have H := HA.out
                                                          clear HA
                                                          simp only [incipitlaw15_TableReads.l6] at H
                                                          by_cases c64 : x23_8 < (l1.length : Int)
                                                          · rw [if_pos c64] at H
                                                            have c64b0 : decide (x23_8 < (l1.length : Int)) = true := decide_eq_true c64
                                                            clear c64
                                                            by_cases c65 : 0 ≤ x22_7
                                                            · rw [if_pos c65] at H
                                                              have c65b0 : decide (0 ≤ x22_7) = true := decide_eq_true c65
                                                              clear c65
                                                              by_cases c66 : x22_7 < (t355.length : Int)
                                                              · rw [if_pos c66] at H
                                                                have c66b0 : decide (x22_7 < (t355.length : Int)) = true := decide_eq_true c66
                                                                clear c66
                                                                by_cases c67 : 0 ≤ x23_8
                                                                · rw [if_pos c67] at H
                                                                  have c67b0 : decide (0 ≤ x23_8) = true := decide_eq_true c67
                                                                  clear c67
                                                                  by_cases c68 : x23_8 < ((rd_L2 t355 x22_7).length : Int)
                                                                  · rw [if_pos c68] at H
                                                                    have c68b0 : decide (x23_8 < ((rd_L2 t355 x22_7).length : Int)) = true := decide_eq_true c68
                                                                    clear c68
                                                                    by_cases c69 : (rdOf ByteArray.empty (rd_L2 t355 x22_7) x23_8).toList = (rdOf ByteArray.empty l1 x23_8).toList
                                                                    · rw [if_pos c69] at H
                                                                      have c69b0 : ((rdOf ByteArray.empty (rd_L2 t355 x22_7) x23_8).toList == (rdOf ByteArray.empty l1 x23_8).toList) = true := beq_iff_eq.mpr c69
                                                                      have c69b1 : ((rdOf ByteArray.empty (rd_L2 t355 x22_7) x23_8).toList != (rdOf ByteArray.empty l1 x23_8).toList) = false := bne_eq_false_iff_eq.mpr c69
                                                                      clear c69
                                                                      by_cases c70 : x23_8 < (t358.length : Int)
                                                                      · rw [if_pos c70] at H
                                                                        have c70b0 : decide (x23_8 < (t358.length : Int)) = true := decide_eq_true c70
                                                                        clear c70
                                                                        by_cases c71 : (rd t358 x23_8) = 1
                                                                        · rw [if_pos c71] at H
                                                                          have c71b0 : ((rd t358 x23_8) == 1) = true := beq_iff_eq.mpr c71
                                                                          have c71b1 : ((rd t358 x23_8) != 1) = false := bne_eq_false_iff_eq.mpr c71
                                                                          clear c71
                                                                          have H' := Aside0.mk H
                                                                          clear H
                                                                          have p361 : 0 ≤ (x22_7 : Int) := of_decide_eq_true (by first | (with_reducible assumption) | assumption)
                                                                          have q361 : x22_7 < (t355.length : Int) := of_decide_eq_true (by first | (with_reducible assumption) | assumption)
                                                                          obtain ⟨ad361, A361_0, c361_0, e361, hx361_0, hl361_0, hi361_0⟩ := at_L2 (Kd.N_reads' HO_20.out).2.2 x22_7 p361 q361
                                                                          cases e361
                                                                          obtain ⟨ce361, hce361, hMe361, hcc361⟩ := Kd.N_get HO_20.out [] x22_7 p361 (by first | exact q361 | exact of_decide_eq_true (by first | (with_reducible assumption) | assumption) | (have e_ := (Kd.N_reads' HO_20.out).1; omega))
                                                                          obtain ⟨ua361_0, uc361_0, rfl, ul361_0, ge361_0⟩ := Kd.FK_slice_open hMe361
                                                                          have hv361_0 := hcc361 0 _ rfl
                                                                          rw [Nat.add_zero, show ((Kd.slice 9 Kd.string)).sz = 1 from rfl, Nat.mul_one] at hv361_0
                                                                          replace hv361_0 := Option.some.inj (hv361_0.symm.trans hx361_0)
                                                                          injection hv361_0 with hva_ hvn_ hvc_
                                                                          rw [hva_] at ge361_0
                                                                          rw [hvc_] at ul361_0
                                                                          have HL361_0 := Aside0.mk (show Kd.V Kd.string 9 _ w.heap.size _ _ (rd_L2 t355 x22_7) from Kd.V_mk ul361_0 ge361_0)
                                                                          clear hva_ hvn_ hvc_ ge361_0 ul361_0
                                                                          clear hcc361 hce361
                                                                          have HR361_0 := Aside0.mk hi361_0
                                                                          have HC361_0 := Aside0.mk hl361_0
                                                                          clear hi361_0 hl361_0
                                                                          replace p361 := eq_true p361
                                                                          replace q361 := eq_true q361
                                                                          have p362 : 0 ≤ (x23_8 : Int) := of_decide_eq_true (by first | (with_reducible assumption) | assumption)
                                                                          have q362 : x23_8 < ((rd_L2 t355 x22_7).length : Int) := of_decide_eq_true (by first | (with_reducible assumption) | assumption)
                                                                          obtain ⟨ad362, e362, hx362_0⟩ := Kd.at_string (by repeat (first | (with_reducible exact HR361_0.out) | (with_reducible refine Kd.C_alloc ?_ _) | (with_reducible refine Kd.C_drewN ?_ _) | (with_reducible refine Kd.C_drew ?_) | exact HR361_0.out)) x23_8 p362 q362
                                                                          cases e362
                                                                          replace p362 := eq_true p362
                                                                          replace q362 := eq_true q362
                                                                          have p363 : 0 ≤ (x23_8 : Int) := of_decide_eq_true (by first | (with_reducible assumption) | assumption)
                                                                          have q363 : x23_8 < (l1.length : Int) := of_decide_eq_true (by first | (with_reducible assumption) | assumption)
                                                                          obtain ⟨ad363, e363, hx363_0⟩ := Kd.at_string HR1.out x23_8 p363 q363
                                                                          cases e363
                                                                          replace hx363_0 := (HB.out.cell (World.block_lt_of_cell? w _ hx363_0)).trans hx363_0
                                                                          replace p363 := eq_true p363
                                                                          replace q363 := eq_true q363
                                                                          obtain ⟨Ao72, co72, eo72⟩ := Kd.R_slice HO_21.out
                                                                          subst eo72
                                                                          have p364 : 0 ≤ (x23_8 : Int) := of_decide_eq_true (by first | (with_reducible assumption) | assumption)
                                                                          have q364 : x23_8 < (t358.length : Int) := of_decide_eq_true (by first | (with_reducible assumption) | assumption)
                                                                          obtain ⟨ad364, e364, hx364_0⟩ := Kd.at_int (Kd.R_reads' HO_21.out).2.2 x23_8 p364 q364
                                                                          cases e364
                                                                          replace p364 := eq_true p364
                                                                          replace q364 := eq_true q364
                                                                          go_wp2
                                                                          repeat (go_quiet (fail); try go_wp2)
                                                                          go_roundg k8
                                                                          case measure => have := HJ4.out; have := HK2.out; have := HK3.out; have := HK4.out; have := HK5.out; have := HJ46.out; have := HK7.out; have := HK8.out; omega
                                                                          case rel => exact ⟨(wrap64 (x23_8 + 1)), (by first | rfl | (simp; done) | (simp [*]; done)), H', ⟨by have := HJ4.out; have := HK2.out; have := HK3.out; have := HK4.out; have := HK5.out; have := HJ46.out; have := HK7.out; have := HK8.out; omega⟩, ⟨by (with_reducible repeat (first | apply Kd.N_alloc | apply Kd.N_drewN | apply Kd.N_drew)); exact HO_20.out⟩, ⟨by (with_reducible repeat (first | apply Kd.R_alloc | apply Kd.R_drewN | apply Kd.R_drew)); exact HO_21.out⟩, ⟨by repeat (first | (with_reducible first | exact HB.out | apply below_alloc | apply pw_below_drewN | apply below_drew1) | exact HB.out)⟩⟩
                                                                        · rw [if_neg c71] at H
                                                                          have c71b0 : ((rd t358 x23_8) == 1) = false := beq_eq_false_iff_ne.mpr c71
                                                                          have c71b1 : ((rd t358 x23_8) != 1) = true := bne_iff_ne.mpr c71
                                                                          obtain rfl := Option.some.inj H
                                                                          have p361 : 0 ≤ (x22_7 : Int) := of_decide_eq_true (by first | (with_reducible assumption) | assumption)
                                                                          have q361 : x22_7 < (t355.length : Int) := of_decide_eq_true (by first | (with_reducible assumption) | assumption)
                                                                          obtain ⟨ad361, A361_0, c361_0, e361, hx361_0, hl361_0, hi361_0⟩ := at_L2 (Kd.N_reads' HO_20.out).2.2 x22_7 p361 q361
                                                                          cases e361
                                                                          obtain ⟨ce361, hce361, hMe361, hcc361⟩ := Kd.N_get HO_20.out [] x22_7 p361 (by first | exact q361 | exact of_decide_eq_true (by first | (with_reducible assumption) | assumption) | (have e_ := (Kd.N_reads' HO_20.out).1; omega))
                                                                          obtain ⟨ua361_0, uc361_0, rfl, ul361_0, ge361_0⟩ := Kd.FK_slice_open hMe361
                                                                          have hv361_0 := hcc361 0 _ rfl
                                                                          rw [Nat.add_zero, show ((Kd.slice 9 Kd.string)).sz = 1 from rfl, Nat.mul_one] at hv361_0
                                                                          replace hv361_0 := Option.some.inj (hv361_0.symm.trans hx361_0)
                                                                          injection hv361_0 with hva_ hvn_ hvc_
                                                                          rw [hva_] at ge361_0
                                                                          rw [hvc_] at ul361_0
                                                                          have HL361_0 := Aside0.mk (show Kd.V Kd.string 9 _ w.heap.size _ _ (rd_L2 t355 x22_7) from Kd.V_mk ul361_0 ge361_0)
                                                                          clear hva_ hvn_ hvc_ ge361_0 ul361_0
                                                                          clear hcc361 hce361
                                                                          have HR361_0 := Aside0.mk hi361_0
                                                                          have HC361_0 := Aside0.mk hl361_0
                                                                          clear hi361_0 hl361_0
                                                                          replace p361 := eq_true p361
                                                                          replace q361 := eq_true q361
                                                                          have p362 : 0 ≤ (x23_8 : Int) := of_decide_eq_true (by first | (with_reducible assumption) | assumption)
                                                                          have q362 : x23_8 < ((rd_L2 t355 x22_7).length : Int) := of_decide_eq_true (by first | (with_reducible assumption) | assumption)
                                                                          obtain ⟨ad362, e362, hx362_0⟩ := Kd.at_string (by repeat (first | (with_reducible exact HR361_0.out) | (with_reducible refine Kd.C_alloc ?_ _) | (with_reducible refine Kd.C_drewN ?_ _) | (with_reducible refine Kd.C_drew ?_) | exact HR361_0.out)) x23_8 p362 q362
                                                                          cases e362
                                                                          replace p362 := eq_true p362
                                                                          replace q362 := eq_true q362
                                                                          have p363 : 0 ≤ (x23_8 : Int) := of_decide_eq_true (by first | (with_reducible assumption) | assumption)
                                                                          have q363 : x23_8 < (l1.length : Int) := of_decide_eq_true (by first | (with_reducible assumption) | assumption)
                                                                          obtain ⟨ad363, e363, hx363_0⟩ := Kd.at_string HR1.out x23_8 p363 q363
                                                                          cases e363
                                                                          replace hx363_0 := (HB.out.cell (World.block_lt_of_cell? w _ hx363_0)).trans hx363_0
                                                                          replace p363 := eq_true p363
                                                                          replace q363 := eq_true q363
                                                                          obtain ⟨Ao73, co73, eo73⟩ := Kd.R_slice HO_21.out
                                                                          subst eo73
                                                                          have p364 : 0 ≤ (x23_8 : Int) := of_decide_eq_true (by first | (with_reducible assumption) | assumption)
                                                                          have q364 : x23_8 < (t358.length : Int) := of_decide_eq_true (by first | (with_reducible assumption) | assumption)
                                                                          obtain ⟨ad364, e364, hx364_0⟩ := Kd.at_int (Kd.R_reads' HO_21.out).2.2 x23_8 p364 q364
                                                                          cases e364
                                                                          replace p364 := eq_true p364
                                                                          replace q364 := eq_true q364
                                                                          go_wp2
                                                                          repeat (go_quiet (fail); try go_wp2)
                                                                          go_ret
                                                                          exact ⟨by first | rfl | (simp [errW_none, errW_some] <;> rfl) | (simp [*, errW_none, errW_some] <;> rfl), by repeat (first | (with_reducible first | exact HB.out | apply below_alloc | apply pw_below_drewN | apply below_drew1) | exact HB.out)⟩
                                                                      · rw [if_neg c70] at H
                                                                        exact absurd H (by simp)
                                                                    · rw [if_neg c69] at H
                                                                      have c69b0 : ((rdOf ByteArray.empty (rd_L2 t355 x22_7) x23_8).toList == (rdOf ByteArray.empty l1 x23_8).toList) = false := beq_eq_false_iff_ne.mpr c69
                                                                      have c69b1 : ((rdOf ByteArray.empty (rd_L2 t355 x22_7) x23_8).toList != (rdOf ByteArray.empty l1 x23_8).toList) = true := bne_iff_ne.mpr c69
                                                                      obtain rfl := Option.some.inj H
                                                                      have p361 : 0 ≤ (x22_7 : Int) := of_decide_eq_true (by first | (with_reducible assumption) | assumption)
                                                                      have q361 : x22_7 < (t355.length : Int) := of_decide_eq_true (by first | (with_reducible assumption) | assumption)
                                                                      obtain ⟨ad361, A361_0, c361_0, e361, hx361_0, hl361_0, hi361_0⟩ := at_L2 (Kd.N_reads' HO_20.out).2.2 x22_7 p361 q361
                                                                      cases e361
                                                                      obtain ⟨ce361, hce361, hMe361, hcc361⟩ := Kd.N_get HO_20.out [] x22_7 p361 (by first | exact q361 | exact of_decide_eq_true (by first | (with_reducible assumption) | assumption) | (have e_ := (Kd.N_reads' HO_20.out).1; omega))
                                                                      obtain ⟨ua361_0, uc361_0, rfl, ul361_0, ge361_0⟩ := Kd.FK_slice_open hMe361
                                                                      have hv361_0 := hcc361 0 _ rfl
                                                                      rw [Nat.add_zero, show ((Kd.slice 9 Kd.string)).sz = 1 from rfl, Nat.mul_one] at hv361_0
                                                                      replace hv361_0 := Option.some.inj (hv361_0.symm.trans hx361_0)
                                                                      injection hv361_0 with hva_ hvn_ hvc_
                                                                      rw [hva_] at ge361_0
                                                                      rw [hvc_] at ul361_0
                                                                      have HL361_0 := Aside0.mk (show Kd.V Kd.string 9 _ w.heap.size _ _ (rd_L2 t355 x22_7) from Kd.V_mk ul361_0 ge361_0)
                                                                      clear hva_ hvn_ hvc_ ge361_0 ul361_0
                                                                      clear hcc361 hce361
                                                                      have HR361_0 := Aside0.mk hi361_0
                                                                      have HC361_0 := Aside0.mk hl361_0
                                                                      clear hi361_0 hl361_0
                                                                      replace p361 := eq_true p361
                                                                      replace q361 := eq_true q361
                                                                      have p362 : 0 ≤ (x23_8 : Int) := of_decide_eq_true (by first | (with_reducible assumption) | assumption)
                                                                      have q362 : x23_8 < ((rd_L2 t355 x22_7).length : Int) := of_decide_eq_true (by first | (with_reducible assumption) | assumption)
                                                                      obtain ⟨ad362, e362, hx362_0⟩ := Kd.at_string (by repeat (first | (with_reducible exact HR361_0.out) | (with_reducible refine Kd.C_alloc ?_ _) | (with_reducible refine Kd.C_drewN ?_ _) | (with_reducible refine Kd.C_drew ?_) | exact HR361_0.out)) x23_8 p362 q362
                                                                      cases e362
                                                                      replace p362 := eq_true p362
                                                                      replace q362 := eq_true q362
                                                                      have p363 : 0 ≤ (x23_8 : Int) := of_decide_eq_true (by first | (with_reducible assumption) | assumption)
                                                                      have q363 : x23_8 < (l1.length : Int) := of_decide_eq_true (by first | (with_reducible assumption) | assumption)
                                                                      obtain ⟨ad363, e363, hx363_0⟩ := Kd.at_string HR1.out x23_8 p363 q363
                                                                      cases e363
                                                                      replace hx363_0 := (HB.out.cell (World.block_lt_of_cell? w _ hx363_0)).trans hx363_0
                                                                      replace p363 := eq_true p363
                                                                      replace q363 := eq_true q363
                                                                      go_wp2
                                                                      repeat (go_quiet (fail); try go_wp2)
                                                                      go_ret
                                                                      exact ⟨by first | rfl | (simp [errW_none, errW_some] <;> rfl) | (simp [*, errW_none, errW_some] <;> rfl), by repeat (first | (with_reducible first | exact HB.out | apply below_alloc | apply pw_below_drewN | apply below_drew1) | exact HB.out)⟩
                                                                  · rw [if_neg c68] at H
                                                                    exact absurd H (by simp)
                                                                · rw [if_neg c67] at H
                                                                  exact absurd H (by simp)
                                                              · rw [if_neg c66] at H
                                                                exact absurd H (by simp)
                                                            · rw [if_neg c65] at H
                                                              exact absurd H (by simp)
                                                          · rw [if_neg c64] at H
                                                            have c64b0 : decide (x23_8 < (l1.length : Int)) = false := decide_eq_false c64
                                                            clear c64
                                                            have H' := Aside0.mk H
                                                            clear H
                                                            go_wp2
                                                            repeat (go_quiet (fail); try go_wp2)
                                                            go_roundg k8
                                                            case measure => have := HJ4.out; have := HK2.out; have := HK3.out; have := HK4.out; have := HK5.out; have := HJ46.out; have := HK7.out; have := HK8.out; omega
                                                            case rel => exact ⟨(wrap64 (x22_7 + 1)), (by first | rfl | (simp; done) | (simp [*]; done)), H', ⟨by have := HJ4.out; have := HK2.out; have := HK3.out; have := HK4.out; have := HK5.out; have := HJ46.out; have := HK7.out; have := HK8.out; omega⟩, ⟨by (with_reducible repeat (first | apply Kd.N_alloc | apply Kd.N_drewN | apply Kd.N_drew)); exact HO_20.out⟩, ⟨by (with_reducible repeat (first | apply Kd.R_alloc | apply Kd.R_drewN | apply Kd.R_drew)); exact HO_21.out⟩, ⟨by repeat (first | (with_reducible first | exact HB.out | apply below_alloc | apply pw_below_drewN | apply below_drew1) | exact HB.out)⟩⟩
                                                    · rw [if_neg c62] at H
                                                      have c62b0 : decide (x22_7 < (t355.length : Int)) = false := decide_eq_false c62
                                                      clear c62
                                                      obtain rfl := Option.some.inj H
                                                      obtain ⟨Ao74, co74, eo74⟩ := Kd.N_slice HO_20.out
                                                      subst eo74
                                                      go_wp2
                                                      repeat (go_quiet (fail); try go_wp2)
                                                      go_ret
                                                      exact ⟨by first | rfl | (simp [errW_none, errW_some] <;> rfl) | (simp [*, errW_none, errW_some] <;> rfl), by repeat (first | (with_reducible first | exact HB.out | apply below_alloc | apply pw_below_drewN | apply below_drew1) | exact HB.out)⟩
                                  · rw [if_neg c42] at H
                                    exact absurd H (by simp)
                                · rw [if_neg c41] at H
                                  exact absurd H (by simp)
                              · rw [if_neg c40] at H
                                exact absurd H (by simp)
          · rw [if_neg c11] at H
            exact absurd H (by simp)
        · rw [if_neg c10] at H
          exact absurd H (by simp)

end Go.Proofs.YthbadcdiagcfkaaDoor.PA
