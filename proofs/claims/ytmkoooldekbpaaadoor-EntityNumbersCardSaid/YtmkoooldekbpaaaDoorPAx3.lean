-- printed by the kit's printer, turned by a program of this session (wip/tools/mkprint.py)
import Derived.Test.YtmkoooldekbpaaaDoorPAx0
import Derived.Test.YtmkoooldekbpaaaDoorPAx1
import Derived.Test.YtmkoooldekbpaaaDoorGLib
import Derived.Test.YtmkoooldekbpaaaDoorGMax
import Derived.Test.YtmkoooldekbpaaaDoorGBody
import Derived.Test.YtmkoooldekbpaaaDoorGNames
import Derived.Test.YtmkoooldekbpaaaDoorGRefTab
namespace Go.Proofs.YtmkoooldekbpaaaDoor.PA
open Go.RowKit Go.Proofs.YtmkoooldekbpaaaDoorW.PrintWords Go.Proofs.YtmkoooldekbpaaaDoorW.PrintLast Go.Proofs.YtmkoooldekbpaaaDoorW.PrintMore
attribute [local go_sem] max2_int min2_int max_two min_two max_three min_three max_four min_four   -- for this text's walks alone
set_option linter.unusedVariables false
set_option linter.unusedSimpArgs false

/-! ### incipitlaw04_EntityNumbers: function 4 -/
mutual
def incipitlaw04_EntityNumbers.j0 : Nat → ByteArray → Bool → Int → Bool → Option (Bool)
  | 0, _, _, _, _ => none
  | k + 1, x1, x5, x6, x28 => if x28 = true then (some x5) else (incipitlaw04_EntityNumbers.l0 k x1 x5 x6 (⟨#[]⟩ : ByteArray) (⟨#[]⟩ : ByteArray) (⟨#[]⟩ : ByteArray) x6)
def incipitlaw04_EntityNumbers.l0 : Nat → ByteArray → Bool → Int → ByteArray → ByteArray → ByteArray → Int → Option (Bool)
  | 0, _, _, _, _, _, _, _ => none
  | k + 1, x1, x5, x6, x7, x8, x9, x10 => if x10 > 0 then ((some (([(48 + ((Int.tmod x10 10) % 256)) % 256] : List Int) : List Int)).bind fun y131 => (if (strOfNums y131).size + x7.size ≤ 9223372036854775807 then (incipitlaw04_EntityNumbers.l0 k x1 x5 x6 ((strOfNums y131) ++ x7) x8 x9 (wrap64 (Int.tdiv x10 10))) else (none))) else (if x7.toList = ([] : List UInt8) then ((some (([(48 + ((Int.tmod x10 10) % 256)) % 256] : List Int) : List Int)).bind fun y134 => (if (strOfNums y134).size + x7.size ≤ 9223372036854775807 then (incipitlaw04_EntityNumbers.l0 k x1 x5 x6 ((strOfNums y134) ++ x7) x8 x9 (wrap64 (Int.tdiv x10 10))) else (none))) else (incipitlaw04_EntityNumbers.l1 k x1 x5 x6 x7 x8 x9 x6))
def incipitlaw04_EntityNumbers.l1 : Nat → ByteArray → Bool → Int → ByteArray → ByteArray → ByteArray → Int → Option (Bool)
  | 0, _, _, _, _, _, _, _ => none
  | k + 1, x1, x5, x6, x7, x8, x9, x11 => if x11 > 0 then (if 0 ≤ (Int.tmod x11 16) then (if (Int.tmod x11 16) ≤ (wrap64 ((Int.tmod x11 16) + 1)) then (if (wrap64 ((Int.tmod x11 16) + 1)) ≤ 16 then (if ((⟨#[48, 49, 50, 51, 52, 53, 54, 55, 56, 57, 97, 98, 99, 100, 101, 102]⟩ : ByteArray).extract ((Int.tmod x11 16) : Int).toNat ((wrap64 ((Int.tmod x11 16) + 1)) : Int).toNat).size + x8.size ≤ 9223372036854775807 then (if ((⟨#[48, 49, 50, 51, 52, 53, 54, 55, 56, 57, 65, 66, 67, 68, 69, 70]⟩ : ByteArray).extract ((Int.tmod x11 16) : Int).toNat ((wrap64 ((Int.tmod x11 16) + 1)) : Int).toNat).size + x9.size ≤ 9223372036854775807 then (incipitlaw04_EntityNumbers.l1 k x1 x5 x6 x7 (((⟨#[48, 49, 50, 51, 52, 53, 54, 55, 56, 57, 97, 98, 99, 100, 101, 102]⟩ : ByteArray).extract ((Int.tmod x11 16) : Int).toNat ((wrap64 ((Int.tmod x11 16) + 1)) : Int).toNat) ++ x8) (((⟨#[48, 49, 50, 51, 52, 53, 54, 55, 56, 57, 65, 66, 67, 68, 69, 70]⟩ : ByteArray).extract ((Int.tmod x11 16) : Int).toNat ((wrap64 ((Int.tmod x11 16) + 1)) : Int).toNat) ++ x9) (wrap64 (Int.tdiv x11 16))) else (none)) else (none)) else (none)) else (none)) else (none)) else (if x8.toList = ([] : List UInt8) then (if 0 ≤ (Int.tmod x11 16) then (if (Int.tmod x11 16) ≤ (wrap64 ((Int.tmod x11 16) + 1)) then (if (wrap64 ((Int.tmod x11 16) + 1)) ≤ 16 then (if ((⟨#[48, 49, 50, 51, 52, 53, 54, 55, 56, 57, 97, 98, 99, 100, 101, 102]⟩ : ByteArray).extract ((Int.tmod x11 16) : Int).toNat ((wrap64 ((Int.tmod x11 16) + 1)) : Int).toNat).size + x8.size ≤ 9223372036854775807 then (if ((⟨#[48, 49, 50, 51, 52, 53, 54, 55, 56, 57, 65, 66, 67, 68, 69, 70]⟩ : ByteArray).extract ((Int.tmod x11 16) : Int).toNat ((wrap64 ((Int.tmod x11 16) + 1)) : Int).toNat).size + x9.size ≤ 9223372036854775807 then (incipitlaw04_EntityNumbers.l1 k x1 x5 x6 x7 (((⟨#[48, 49, 50, 51, 52, 53, 54, 55, 56, 57, 97, 98, 99, 100, 101, 102]⟩ : ByteArray).extract ((Int.tmod x11 16) : Int).toNat ((wrap64 ((Int.tmod x11 16) + 1)) : Int).toNat) ++ x8) (((⟨#[48, 49, 50, 51, 52, 53, 54, 55, 56, 57, 65, 66, 67, 68, 69, 70]⟩ : ByteArray).extract ((Int.tmod x11 16) : Int).toNat ((wrap64 ((Int.tmod x11 16) + 1)) : Int).toNat) ++ x9) (wrap64 (Int.tdiv x11 16))) else (none)) else (none)) else (none)) else (none)) else (none)) else (if x6 = 0 then (incipitlaw04_EntityNumbers.j3 k x1 x5 x7 x8 x9 (Go.Utf8.encode (wrap32 (x6))) true) else (incipitlaw04_EntityNumbers.j3 k x1 x5 x7 x8 x9 (Go.Utf8.encode (wrap32 (x6))) (decide (x6 > 1114111)))))
def incipitlaw04_EntityNumbers.j3 : Nat → ByteArray → Bool → ByteArray → ByteArray → ByteArray → ByteArray → Bool → Option (Bool)
  | 0, _, _, _, _, _, _, _ => none
  | k + 1, x1, x5, x7, x8, x9, x12, x80 => if x80 = true then (if 2 + x7.size ≤ 9223372036854775807 then (if ((⟨#[38, 35]⟩ : ByteArray) ++ x7).size + 1 ≤ 9223372036854775807 then (if (((⟨#[38, 35]⟩ : ByteArray) ++ x7) ++ (⟨#[59]⟩ : ByteArray)).size + x1.size ≤ 9223372036854775807 then ((entity_Read.f ((((⟨#[38, 35]⟩ : ByteArray) ++ x7) ++ (⟨#[59]⟩ : ByteArray)) ++ x1)).bind fun bt137 => (if 3 + x8.size ≤ 9223372036854775807 then (if ((⟨#[38, 35, 120]⟩ : ByteArray) ++ x8).size + 1 ≤ 9223372036854775807 then (if (((⟨#[38, 35, 120]⟩ : ByteArray) ++ x8) ++ (⟨#[59]⟩ : ByteArray)).size + x1.size ≤ 9223372036854775807 then ((entity_Read.f ((((⟨#[38, 35, 120]⟩ : ByteArray) ++ x8) ++ (⟨#[59]⟩ : ByteArray)) ++ x1)).bind fun bt139 => (if 3 + x9.size ≤ 9223372036854775807 then (if ((⟨#[38, 35, 88]⟩ : ByteArray) ++ x9).size + 1 ≤ 9223372036854775807 then (if (((⟨#[38, 35, 88]⟩ : ByteArray) ++ x9) ++ (⟨#[59]⟩ : ByteArray)).size + x1.size ≤ 9223372036854775807 then ((entity_Read.f ((((⟨#[38, 35, 88]⟩ : ByteArray) ++ x9) ++ (⟨#[59]⟩ : ByteArray)) ++ x1)).bind fun bt141 => (if x5 = true then (if bt137.1.toList = ([239, 191, 189] : List UInt8) then (if bt139.1.toList = ([239, 191, 189] : List UInt8) then (if bt141.1.toList = ([239, 191, 189] : List UInt8) then (if bt137.2 = (wrap64 ((x7.size : Int) + 3)) then (if bt139.2 = (wrap64 ((x8.size : Int) + 4)) then (some (bt141.2 == bt139.2)) else (some false)) else (some false)) else (some false)) else (some false)) else (some false)) else (some false))) else (none)) else (none)) else (none))) else (none)) else (none)) else (none))) else (none)) else (none)) else (none)) else (if 2 + x7.size ≤ 9223372036854775807 then (if ((⟨#[38, 35]⟩ : ByteArray) ++ x7).size + 1 ≤ 9223372036854775807 then (if (((⟨#[38, 35]⟩ : ByteArray) ++ x7) ++ (⟨#[59]⟩ : ByteArray)).size + x1.size ≤ 9223372036854775807 then ((entity_Read.f ((((⟨#[38, 35]⟩ : ByteArray) ++ x7) ++ (⟨#[59]⟩ : ByteArray)) ++ x1)).bind fun bt143 => (if 3 + x8.size ≤ 9223372036854775807 then (if ((⟨#[38, 35, 120]⟩ : ByteArray) ++ x8).size + 1 ≤ 9223372036854775807 then (if (((⟨#[38, 35, 120]⟩ : ByteArray) ++ x8) ++ (⟨#[59]⟩ : ByteArray)).size + x1.size ≤ 9223372036854775807 then ((entity_Read.f ((((⟨#[38, 35, 120]⟩ : ByteArray) ++ x8) ++ (⟨#[59]⟩ : ByteArray)) ++ x1)).bind fun bt145 => (if 3 + x9.size ≤ 9223372036854775807 then (if ((⟨#[38, 35, 88]⟩ : ByteArray) ++ x9).size + 1 ≤ 9223372036854775807 then (if (((⟨#[38, 35, 88]⟩ : ByteArray) ++ x9) ++ (⟨#[59]⟩ : ByteArray)).size + x1.size ≤ 9223372036854775807 then ((entity_Read.f ((((⟨#[38, 35, 88]⟩ : ByteArray) ++ x9) ++ (⟨#[59]⟩ : ByteArray)) ++ x1)).bind fun bt147 => (if x5 = true then (if bt143.1.toList = x12.toList then (if bt145.1.toList = x12.toList then (if bt147.1.toList = x12.toList then (if bt143.2 = (wrap64 ((x7.size : Int) + 3)) then (if bt145.2 = (wrap64 ((x8.size : Int) + 4)) then (some (bt147.2 == bt145.2)) else (some false)) else (some false)) else (some false)) else (some false)) else (some false)) else (some false))) else (none)) else (none)) else (none))) else (none)) else (none)) else (none))) else (none)) else (none)) else (none))
end
def incipitlaw04_EntityNumbers.f (k : Nat) (a0 : Int) (a1 : ByteArray) : Option (Bool) := (incipitlaw04_awake.f).bind fun t130 => (if (a1.size : Int) > 300 then (incipitlaw04_EntityNumbers.j0 k a1 t130 (Go.bits .and .i64 a0 16777215) true) else (incipitlaw04_EntityNumbers.j0 k a1 t130 (Go.bits .and .i64 a0 16777215) (decide ((Go.bits .and .i64 a0 16777215) > 9999999))))
theorem incipitlaw04_EntityNumbers.mono_l : ∀ k, (∀ y0 y1 y2 y3, LeO (incipitlaw04_EntityNumbers.j0 k y0 y1 y2 y3) (incipitlaw04_EntityNumbers.j0 (k + 1) y0 y1 y2 y3)) ∧ (∀ y0 y1 y2 y3 y4 y5 y6, LeO (incipitlaw04_EntityNumbers.l0 k y0 y1 y2 y3 y4 y5 y6) (incipitlaw04_EntityNumbers.l0 (k + 1) y0 y1 y2 y3 y4 y5 y6)) ∧ (∀ y0 y1 y2 y3 y4 y5 y6, LeO (incipitlaw04_EntityNumbers.l1 k y0 y1 y2 y3 y4 y5 y6) (incipitlaw04_EntityNumbers.l1 (k + 1) y0 y1 y2 y3 y4 y5 y6)) ∧ (∀ y0 y1 y2 y3 y4 y5 y6, LeO (incipitlaw04_EntityNumbers.j3 k y0 y1 y2 y3 y4 y5 y6) (incipitlaw04_EntityNumbers.j3 (k + 1) y0 y1 y2 y3 y4 y5 y6))
  | 0 => ⟨fun _ _ _ _ r h => by simp [incipitlaw04_EntityNumbers.j0] at h, fun _ _ _ _ _ _ _ r h => by simp [incipitlaw04_EntityNumbers.l0] at h, fun _ _ _ _ _ _ _ r h => by simp [incipitlaw04_EntityNumbers.l1] at h, fun _ _ _ _ _ _ _ r h => by simp [incipitlaw04_EntityNumbers.j3] at h⟩
  | k + 1 => by
    obtain ⟨ih0, ih1, ih2, ih3⟩ := incipitlaw04_EntityNumbers.mono_l k
    refine ⟨?_, ?_, ?_, ?_⟩
    · intro y0 y1 y2 y3
      unfold incipitlaw04_EntityNumbers.j0
      repeat' first
      | (with_reducible exact ih0 _ _ _ _)
      | (with_reducible exact ih1 _ _ _ _ _ _ _)
      | (with_reducible exact ih2 _ _ _ _ _ _ _)
      | (with_reducible exact ih3 _ _ _ _ _ _ _)
      | (with_reducible exact LeO.refl _)
      | (with_reducible exact LeO.none _)
      | (with_reducible refine LeO.ite ?_ ?_)
      | (with_reducible refine LeO.bind ?_ (fun _ => ?_))
      | exact ih0 _ _ _ _
      | exact ih1 _ _ _ _ _ _ _
      | exact ih2 _ _ _ _ _ _ _
      | exact ih3 _ _ _ _ _ _ _
      | exact LeO.none _
      | refine LeO.ite ?_ ?_
      | refine LeO.bind ?_ (fun _ => ?_)
    · intro y0 y1 y2 y3 y4 y5 y6
      unfold incipitlaw04_EntityNumbers.l0
      repeat' first
      | (with_reducible exact ih0 _ _ _ _)
      | (with_reducible exact ih1 _ _ _ _ _ _ _)
      | (with_reducible exact ih2 _ _ _ _ _ _ _)
      | (with_reducible exact ih3 _ _ _ _ _ _ _)
      | (with_reducible exact LeO.refl _)
      | (with_reducible exact LeO.none _)
      | (with_reducible refine LeO.ite ?_ ?_)
      | (with_reducible refine LeO.bind ?_ (fun _ => ?_))
      | exact ih0 _ _ _ _
      | exact ih1 _ _ _ _ _ _ _
      | exact ih2 _ _ _ _ _ _ _
      | exact ih3 _ _ _ _ _ _ _
      | exact LeO.none _
      | refine LeO.ite ?_ ?_
      | refine LeO.bind ?_ (fun _ => ?_)
    · intro y0 y1 y2 y3 y4 y5 y6
      unfold incipitlaw04_EntityNumbers.l1
      repeat' first
      | (with_reducible exact ih0 _ _ _ _)
      | (with_reducible exact ih1 _ _ _ _ _ _ _)
      | (with_reducible exact ih2 _ _ _ _ _ _ _)
      | (with_reducible exact ih3 _ _ _ _ _ _ _)
      | (with_reducible exact LeO.refl _)
      | (with_reducible exact LeO.none _)
      | (with_reducible refine LeO.ite ?_ ?_)
      | (with_reducible refine LeO.bind ?_ (fun _ => ?_))
      | exact ih0 _ _ _ _
      | exact ih1 _ _ _ _ _ _ _
      | exact ih2 _ _ _ _ _ _ _
      | exact ih3 _ _ _ _ _ _ _
      | exact LeO.none _
      | refine LeO.ite ?_ ?_
      | refine LeO.bind ?_ (fun _ => ?_)
    · intro y0 y1 y2 y3 y4 y5 y6
      unfold incipitlaw04_EntityNumbers.j3
      repeat' first
      | (with_reducible exact ih0 _ _ _ _)
      | (with_reducible exact ih1 _ _ _ _ _ _ _)
      | (with_reducible exact ih2 _ _ _ _ _ _ _)
      | (with_reducible exact ih3 _ _ _ _ _ _ _)
      | (with_reducible exact LeO.refl _)
      | (with_reducible exact LeO.none _)
      | (with_reducible refine LeO.ite ?_ ?_)
      | (with_reducible refine LeO.bind ?_ (fun _ => ?_))
      | exact ih0 _ _ _ _
      | exact ih1 _ _ _ _ _ _ _
      | exact ih2 _ _ _ _ _ _ _
      | exact ih3 _ _ _ _ _ _ _
      | exact LeO.none _
      | refine LeO.ite ?_ ?_
      | refine LeO.bind ?_ (fun _ => ?_)
theorem incipitlaw04_EntityNumbers.mono : ∀ a0 a1 k, LeO (incipitlaw04_EntityNumbers.f k a0 a1) (incipitlaw04_EntityNumbers.f (k + 1) a0 a1) := by
  intro a0 a1 k
  obtain ⟨ih0, ih1, ih2, ih3⟩ := incipitlaw04_EntityNumbers.mono_l k
  unfold incipitlaw04_EntityNumbers.f
  repeat' first
      | (with_reducible exact ih0 _ _ _ _)
      | (with_reducible exact ih1 _ _ _ _ _ _ _)
      | (with_reducible exact ih2 _ _ _ _ _ _ _)
      | (with_reducible exact ih3 _ _ _ _ _ _ _)
      | (with_reducible exact LeO.refl _)
      | (with_reducible exact LeO.none _)
      | (with_reducible refine LeO.ite ?_ ?_)
      | (with_reducible refine LeO.bind ?_ (fun _ => ?_))
      | exact ih0 _ _ _ _
      | exact ih1 _ _ _ _ _ _ _
      | exact ih2 _ _ _ _ _ _ _
      | exact ih3 _ _ _ _ _ _ _
      | exact LeO.none _
      | refine LeO.ite ?_ ?_
      | refine LeO.bind ?_ (fun _ => ?_)
set_option maxHeartbeats 8000000 in
set_option maxRecDepth 100000 in
theorem incipitlaw04_EntityNumbers.calls (k : Nat) (a0 : Int) (a1 : ByteArray) (r : Bool) (w : World) (hLd : Laid w) (h : incipitlaw04_EntityNumbers.f k a0 a1 = some r) :
    Calls Tryd.prog 4 #[.int .i64 a0, .string a1] w fun e w' => e = .returned (.bool r) ∧ Below w.heap.size w w' := by
  have HB := Aside0.mk (Below.refl w.heap.size w)
  have H : ((incipitlaw04_awake.f).bind fun t130 => (if (a1.size : Int) > 300 then (incipitlaw04_EntityNumbers.j0 k a1 t130 (Go.bits .and .i64 a0 16777215) true) else (incipitlaw04_EntityNumbers.j0 k a1 t130 (Go.bits .and .i64 a0 16777215) (decide ((Go.bits .and .i64 a0 16777215) > 9999999))))) = some r := h
  clear h
  replace H := Option.bind_eq_some_iff.mp H
  obtain ⟨t130, A30, H⟩ := H
  replace H : (if (a1.size : Int) > 300 then (incipitlaw04_EntityNumbers.j0 k a1 t130 (Go.bits .and .i64 a0 16777215) true) else (incipitlaw04_EntityNumbers.j0 k a1 t130 (Go.bits .and .i64 a0 16777215) (decide ((Go.bits .and .i64 a0 16777215) > 9999999)))) = some r := H
  have A3 := Aside0.mk A30
  clear A30
  have HC4 := Aside0.mk H
  clear H
  go_enter Tryd.func4, Tryd.ntmps4
  go_upto_region 3 with (first | ((with_reducible refine gate_callee (f := 9) rfl ?_); refine goesL_ (some 19) rfl rfl Tryd.func9 (by kernel_rfl) rfl #[] rfl (by (try simp only [List.map_toArray, List.map_cons, List.map_nil]); first | done | rfl | (simp only [List.length_drop, List.length_take]; rfl)) ?_; (with_reducible refine (incipitlaw04_awake.calls  t130 _ ?side1 A3.out).mono ?_); (case side1 => exact Laid.go hLd (by repeat (first | (with_reducible first | exact HB.out | apply below_alloc | apply pw_below_drewN | apply below_drew1) | exact HB.out))); rintro e w5 ⟨rfl, hb⟩; refine ⟨_, rfl, ?_⟩; have n0_ := Aside0.mk (below_step (by repeat (first | (with_reducible first | exact HB.out | apply below_alloc | apply pw_below_drewN | apply below_drew1) | exact HB.out)) hb); clear HB; have HB := n0_; clear n0_; (try clear hb); (try clear hb2); (try clear hk); (try clear hi)))
  (try simp only [Act.put, List.setIfInBounds_toArray, List.set_cons_zero, List.set_cons_succ])
  go_cut [28] (fun v28 wc => ∃ (kq : Nat) (x28_3 : Bool), v28 = .bool x28_3 ∧ Aside0 (incipitlaw04_EntityNumbers.j0 kq a1 t130 (Go.bits .and .i64 a0 16777215) x28_3 = some r) ∧ Aside0 (kq ≤ k) ∧ Aside0 (Below w.heap.size w wc))
  case first =>
    have H := HC4.out
    clear HC4
    by_cases c6 : (a1.size : Int) > 300
    · rw [if_pos c6] at H
      have c6b0 : decide (300 < (a1.size : Int)) = true := decide_eq_true c6
      have c6b1 : decide (300 < a1.size) = true := decide_eq_true (by omega)
      clear c6
      (first | rw [c6b0] | (simp only [i64_w, i32_w]; rw [c6b0]) | skip)
      have H' := Aside0.mk H
      clear H
      go_wp2
      go_meet
      case rel => exact ⟨_, (true), (by first | rfl | (simp; done) | (simp [*]; done)), H', ⟨by first | omega | exact Nat.le_refl _⟩, ⟨by repeat (first | (with_reducible first | exact HB.out | apply below_alloc | apply pw_below_drewN | apply below_drew1) | exact HB.out)⟩⟩
    · rw [if_neg c6] at H
      have c6b0 : decide (300 < (a1.size : Int)) = false := decide_eq_false c6
      have c6b1 : decide (300 < a1.size) = false := decide_eq_false (by omega)
      clear c6
      (first | rw [c6b0] | (simp only [i64_w, i32_w]; rw [c6b0]) | skip)
      have H' := Aside0.mk H
      clear H
      go_wp2
      go_meet
      case rel => exact ⟨_, (decide ((Go.bits .and .i64 a0 16777215) > 9999999)), (by first | rfl | (simp; done) | (simp [*]; done)), H', ⟨by first | omega | exact Nat.le_refl _⟩, ⟨by repeat (first | (with_reducible first | exact HB.out | apply below_alloc | apply pw_below_drewN | apply below_drew1) | exact HB.out)⟩⟩
  case rest =>
    clear HC4
    try clear p2
    try clear c4
    try clear c6
    try clear c6b0
    try clear c6b1
    obtain ⟨kq, x28_3, rfl, HA, HJ3, HB⟩ := hcut
    cases kq with
    | zero => exact absurd HA.out (by simp [incipitlaw04_EntityNumbers.j0])
    | succ kj3 =>
      have H := HA.out
      clear HA
      simp only [incipitlaw04_EntityNumbers.j0] at H
      by_cases c7 : x28_3 = true
      · subst c7
        have H1 : (some t130) = some r := by rw [if_pos rfl] at H; exact H
        clear H
        have H := H1
        clear H1
        obtain rfl := Option.some.inj H
        go_wp2
        go_ret
        exact ⟨by first | rfl | (simp [errW_none, errW_some] <;> rfl) | (simp [*, errW_none, errW_some] <;> rfl), by repeat (first | (with_reducible first | exact HB.out | apply below_alloc | apply pw_below_drewN | apply below_drew1) | exact HB.out)⟩
      · replace c7 := Bool.eq_false_iff.mpr c7
        subst c7
        have H1 : (incipitlaw04_EntityNumbers.l0 kj3 a1 t130 (Go.bits .and .i64 a0 16777215) (⟨#[]⟩ : ByteArray) (⟨#[]⟩ : ByteArray) (⟨#[]⟩ : ByteArray) (Go.bits .and .i64 a0 16777215)) = some r := by rw [if_neg (show ¬ (false = true) by decide)] at H; exact H
        clear H
        have H := H1
        clear H1
        have H' := Aside0.mk H
        clear H
        go_wp2
        go_loopg [7, 10] kj3 (fun kq v7 v10 w' => ∃ (x7_2 : ByteArray) (x10_2 : Int), v7 = .string x7_2 ∧ v10 = .int .i64 x10_2 ∧ Aside0 (incipitlaw04_EntityNumbers.l0 kq a1 t130 (Go.bits .and .i64 a0 16777215) x7_2 (⟨#[]⟩ : ByteArray) (⟨#[]⟩ : ByteArray) x10_2 = some r) ∧ Aside0 (kq ≤ kj3) ∧ Aside0 (Below w.heap.size w w'))
        case atStart => exact ⟨((⟨#[]⟩ : ByteArray)), ((Go.bits .and .i64 a0 16777215)), (by first | rfl | (simp; done) | (simp [*]; done)), (by first | rfl | (simp; done) | (simp [*]; done)), H', ⟨Nat.le_refl _⟩, ⟨by repeat (first | (with_reducible first | exact HB.out | apply below_alloc | apply pw_below_drewN | apply below_drew1) | exact HB.out)⟩⟩
        case round =>
          clear H'
          try clear p2
          try clear c4
          try clear c6
          try clear c6b0
          try clear c6b1
          try clear c7
          try clear p2
          obtain ⟨x7_2, x10_2, rfl, rfl, HA, HK2, HB⟩ := hrel
          cases gk with
          | zero => exact absurd HA.out (by simp [incipitlaw04_EntityNumbers.l0])
          | succ k2 =>
            have H := HA.out
            clear HA
            simp only [incipitlaw04_EntityNumbers.l0] at H
            by_cases c8 : x10_2 > 0
            · rw [if_pos c8] at H
              have c8b0 : decide (0 < x10_2) = true := decide_eq_true c8
              clear c8
              obtain ⟨y131, hy131⟩ : ∃ y_ : List Int, y_ = (([(48 + ((Int.tmod x10_2 10) % 256)) % 256] : List Int)) := ⟨_, rfl⟩
              replace H : (if (strOfNums y131).size + x7_2.size ≤ 9223372036854775807 then (incipitlaw04_EntityNumbers.l0 k2 a1 t130 (Go.bits .and .i64 a0 16777215) ((strOfNums y131) ++ x7_2) (⟨#[]⟩ : ByteArray) (⟨#[]⟩ : ByteArray) (wrap64 (Int.tdiv x10_2 10))) else (none)) = some r := by first | (rw [hy131]; with_reducible exact H) | (have H2_ := (Option.bind_some _ _).symm.trans H; rw [hy131]; with_reducible exact H2_) | (have H2_ := (Option.bind_some _ _).symm.trans H; with_reducible exact H2_) | with_reducible exact H | (rw [hy131]; exact H) | exact H
              have Ny131 := Aside0.mk hy131
              clear hy131
              by_cases c9 : (strOfNums y131).size + x7_2.size ≤ 9223372036854775807
              · rw [if_pos c9] at H
                have c9b0 := eq_true c9
                have c9b1 : decide ((strOfNums y131).size + x7_2.size ≤ 9223372036854775807) = true := decide_eq_true c9
                try have c9b2 : (9223372036854775807 < (strOfNums y131).size + x7_2.size) = False := eq_false (Nat.not_lt.2 c9)
                have H' := Aside0.mk H
                clear H
                go_wp2_with (first | ((with_reducible refine gate_dst (N := 43) rfl ?_); (try (refine gate_guard (by rfl) ?_; dsimp only)); refine Kd.R_lit (Kd.int .u8) _ 5 ?hg (N := 43) ?hd (xs := ([(48 + ((Int.tmod x10_2 10) % 256)) % 256] : List Int)) (inner := [.int .u8 ((48 + ((Int.tmod x10_2 10) % 256)) % 256)]) (ok := fun _ => True) (okp := fun _ => True) ?hr ?hp (fun _ hk => hk) trivial (Below.refl _ _) (Nat.le_refl _) (by simp) ?_; (case hd => rfl); (case hg => rfl); (case hr => first | (go_simp; done) | (go_simp; rfl)); (case hp => exact (Reps.one (show Kd.M (Kd.int .u8) _ _ _ ((48 + ((Int.tmod x10_2 10) % 256)) % 256) [.int .u8 ((48 + ((Int.tmod x10_2 10) % 256)) % 256)] from rfl) (Reps.none _ _))); intro v132 w10 ho11 hb hg_ hnew_; clear hg_ hnew_; (first | rw [← Ny131.out] at ho11 | (simp only [Int.reduceToNat] at ho11; rw [← Ny131.out] at ho11)); have n0_ := Aside0.mk (Kd.R_lower ho11 (below_size (by repeat (first | (with_reducible first | exact HB.out | apply below_alloc | apply pw_below_drewN | apply below_drew1) | exact HB.out)))); have n1_ := Aside0.mk (below_step (by repeat (first | (with_reducible first | exact HB.out | apply below_alloc | apply pw_below_drewN | apply below_drew1) | exact HB.out)) hb); clear HB; have HO133 := n0_; have HB := n1_; clear n0_ n1_; clear hb ho11; have hcv12 := own_string (P := Tryd.prog) Tryd.underlying26 Tryd.underlying5 Tryd.underlying9 (Kd.own_of_R HO133.out)))
                go_roundg k2
                case measure => have := HJ3.out; have := HK2.out; omega
                case rel => exact ⟨((strOfNums y131) ++ x7_2), (wrap64 (Int.tdiv x10_2 10)), (by first | rfl | (simp; done) | (simp [*]; done)), (by first | rfl | (simp; done) | (simp [*]; done)), H', ⟨by have := HJ3.out; have := HK2.out; omega⟩, ⟨by repeat (first | (with_reducible first | exact HB.out | apply below_alloc | apply pw_below_drewN | apply below_drew1) | exact HB.out)⟩⟩
              · rw [if_neg c9] at H
                exact absurd H (by simp)
            · rw [if_neg c8] at H
              have c8b0 : decide (0 < x10_2) = false := decide_eq_false c8
              clear c8
              by_cases c13 : x7_2.toList = ([] : List UInt8)
              · rw [if_pos c13] at H
                have c13b0 : (x7_2.toList == ([] : List UInt8)) = true := beq_iff_eq.mpr c13
                have c13b1 : (x7_2.toList != ([] : List UInt8)) = false := bne_eq_false_iff_eq.mpr c13
                clear c13
                obtain ⟨y134, hy134⟩ : ∃ y_ : List Int, y_ = (([(48 + ((Int.tmod x10_2 10) % 256)) % 256] : List Int)) := ⟨_, rfl⟩
                replace H : (if (strOfNums y134).size + x7_2.size ≤ 9223372036854775807 then (incipitlaw04_EntityNumbers.l0 k2 a1 t130 (Go.bits .and .i64 a0 16777215) ((strOfNums y134) ++ x7_2) (⟨#[]⟩ : ByteArray) (⟨#[]⟩ : ByteArray) (wrap64 (Int.tdiv x10_2 10))) else (none)) = some r := by first | (rw [hy134]; with_reducible exact H) | (have H2_ := (Option.bind_some _ _).symm.trans H; rw [hy134]; with_reducible exact H2_) | (have H2_ := (Option.bind_some _ _).symm.trans H; with_reducible exact H2_) | with_reducible exact H | (rw [hy134]; exact H) | exact H
                have Ny134 := Aside0.mk hy134
                clear hy134
                by_cases c14 : (strOfNums y134).size + x7_2.size ≤ 9223372036854775807
                · rw [if_pos c14] at H
                  have c14b0 := eq_true c14
                  have c14b1 : decide ((strOfNums y134).size + x7_2.size ≤ 9223372036854775807) = true := decide_eq_true c14
                  try have c14b2 : (9223372036854775807 < (strOfNums y134).size + x7_2.size) = False := eq_false (Nat.not_lt.2 c14)
                  have H' := Aside0.mk H
                  clear H
                  go_wp2_with (first | ((with_reducible refine gate_dst (N := 43) rfl ?_); (try (refine gate_guard (by rfl) ?_; dsimp only)); refine Kd.R_lit (Kd.int .u8) _ 5 ?hg (N := 43) ?hd (xs := ([(48 + ((Int.tmod x10_2 10) % 256)) % 256] : List Int)) (inner := [.int .u8 ((48 + ((Int.tmod x10_2 10) % 256)) % 256)]) (ok := fun _ => True) (okp := fun _ => True) ?hr ?hp (fun _ hk => hk) trivial (Below.refl _ _) (Nat.le_refl _) (by simp) ?_; (case hd => rfl); (case hg => rfl); (case hr => first | (go_simp; done) | (go_simp; rfl)); (case hp => exact (Reps.one (show Kd.M (Kd.int .u8) _ _ _ ((48 + ((Int.tmod x10_2 10) % 256)) % 256) [.int .u8 ((48 + ((Int.tmod x10_2 10) % 256)) % 256)] from rfl) (Reps.none _ _))); intro v135 w15 ho16 hb hg_ hnew_; clear hg_ hnew_; (first | rw [← Ny134.out] at ho16 | (simp only [Int.reduceToNat] at ho16; rw [← Ny134.out] at ho16)); have n0_ := Aside0.mk (Kd.R_lower ho16 (below_size (by repeat (first | (with_reducible first | exact HB.out | apply below_alloc | apply pw_below_drewN | apply below_drew1) | exact HB.out)))); have n1_ := Aside0.mk (below_step (by repeat (first | (with_reducible first | exact HB.out | apply below_alloc | apply pw_below_drewN | apply below_drew1) | exact HB.out)) hb); clear HB; have HO136 := n0_; have HB := n1_; clear n0_ n1_; clear hb ho16; have hcv17 := own_string (P := Tryd.prog) Tryd.underlying26 Tryd.underlying5 Tryd.underlying9 (Kd.own_of_R HO136.out)))
                  go_roundg k2
                  case measure => have := HJ3.out; have := HK2.out; omega
                  case rel => exact ⟨((strOfNums y134) ++ x7_2), (wrap64 (Int.tdiv x10_2 10)), (by first | rfl | (simp; done) | (simp [*]; done)), (by first | rfl | (simp; done) | (simp [*]; done)), H', ⟨by have := HJ3.out; have := HK2.out; omega⟩, ⟨by repeat (first | (with_reducible first | exact HB.out | apply below_alloc | apply pw_below_drewN | apply below_drew1) | exact HB.out)⟩⟩
                · rw [if_neg c14] at H
                  exact absurd H (by simp)
              · rw [if_neg c13] at H
                have c13b0 : (x7_2.toList == ([] : List UInt8)) = false := beq_eq_false_iff_ne.mpr c13
                have c13b1 : (x7_2.toList != ([] : List UInt8)) = true := bne_iff_ne.mpr c13
                have H' := Aside0.mk H
                clear H
                go_wp2
                go_loopg [8, 9, 11] k2 (fun kq v8 v9 v11 w' => ∃ (x8_3 : ByteArray) (x9_3 : ByteArray) (x11_3 : Int), v8 = .string x8_3 ∧ v9 = .string x9_3 ∧ v11 = .int .i64 x11_3 ∧ Aside0 (incipitlaw04_EntityNumbers.l1 kq a1 t130 (Go.bits .and .i64 a0 16777215) x7_2 x8_3 x9_3 x11_3 = some r) ∧ Aside0 (kq ≤ k2) ∧ Aside0 (Below w.heap.size w w'))
                case atStart => exact ⟨((⟨#[]⟩ : ByteArray)), ((⟨#[]⟩ : ByteArray)), ((Go.bits .and .i64 a0 16777215)), (by first | rfl | (simp; done) | (simp [*]; done)), (by first | rfl | (simp; done) | (simp [*]; done)), (by first | rfl | (simp; done) | (simp [*]; done)), H', ⟨Nat.le_refl _⟩, ⟨by repeat (first | (with_reducible first | exact HB.out | apply below_alloc | apply pw_below_drewN | apply below_drew1) | exact HB.out)⟩⟩
                case round =>
                  clear H'
                  try clear c1
                  try clear hcv1
                  try clear p2
                  try clear c4
                  try clear c6
                  try clear c6b0
                  try clear c6b1
                  try clear p6
                  try clear c7
                  try clear c8
                  try clear c8b0
                  try clear c9
                  try clear c9b0
                  try clear c9b1
                  try clear c9b2
                  try clear hcv12
                  try clear c13
                  try clear c13b0
                  try clear c13b1
                  try clear c14
                  try clear c14b0
                  try clear c14b1
                  try clear c14b2
                  try clear hcv17
                  try clear p2
                  obtain ⟨x8_3, x9_3, x11_3, rfl, rfl, rfl, HA, HK3, HB⟩ := hrel
                  cases gk with
                  | zero => exact absurd HA.out (by simp [incipitlaw04_EntityNumbers.l1])
                  | succ k3 =>
                    have H := HA.out
                    clear HA
                    simp only [incipitlaw04_EntityNumbers.l1] at H
                    by_cases c18 : x11_3 > 0
                    · rw [if_pos c18] at H
                      have c18b0 : decide (0 < x11_3) = true := decide_eq_true c18
                      clear c18
                      obtain ⟨ji19, hji19⟩ : ∃ j_ : Int, (Int.tmod x11_3 16) = j_ := ⟨_, rfl⟩
                      replace H : (if 0 ≤ (ji19) then (if (ji19) ≤ (wrap64 ((ji19) + 1)) then (if (wrap64 ((ji19) + 1)) ≤ 16 then (if ((⟨#[48, 49, 50, 51, 52, 53, 54, 55, 56, 57, 97, 98, 99, 100, 101, 102]⟩ : ByteArray).extract ((ji19) : Int).toNat ((wrap64 ((ji19) + 1)) : Int).toNat).size + x8_3.size ≤ 9223372036854775807 then (if ((⟨#[48, 49, 50, 51, 52, 53, 54, 55, 56, 57, 65, 66, 67, 68, 69, 70]⟩ : ByteArray).extract ((ji19) : Int).toNat ((wrap64 ((ji19) + 1)) : Int).toNat).size + x9_3.size ≤ 9223372036854775807 then (incipitlaw04_EntityNumbers.l1 k3 a1 t130 (Go.bits .and .i64 a0 16777215) x7_2 (((⟨#[48, 49, 50, 51, 52, 53, 54, 55, 56, 57, 97, 98, 99, 100, 101, 102]⟩ : ByteArray).extract ((ji19) : Int).toNat ((wrap64 ((ji19) + 1)) : Int).toNat) ++ x8_3) (((⟨#[48, 49, 50, 51, 52, 53, 54, 55, 56, 57, 65, 66, 67, 68, 69, 70]⟩ : ByteArray).extract ((ji19) : Int).toNat ((wrap64 ((ji19) + 1)) : Int).toNat) ++ x9_3) (wrap64 (Int.tdiv x11_3 16))) else (none)) else (none)) else (none)) else (none)) else (none)) = some r := by first | (rw [hji19] at H; exact H) | (simp only [hji19] at H ⊢; exact H)
                      by_cases c20 : 0 ≤ (ji19)
                      · rw [if_pos c20] at H
                        have c20b0 := eq_true c20
                        have c20b1 : decide (0 ≤ (ji19)) = true := decide_eq_true c20
                        clear c20
                        by_cases c21 : (ji19) ≤ (wrap64 ((ji19) + 1))
                        · rw [if_pos c21] at H
                          have c21b0 := eq_true c21
                          have c21b1 : decide ((ji19) ≤ (wrap64 ((ji19) + 1))) = true := decide_eq_true c21
                          by_cases c22 : (wrap64 ((ji19) + 1)) ≤ 16
                          · rw [if_pos c22] at H
                            have c22b0 := eq_true c22
                            have c22b1 : decide ((wrap64 ((ji19) + 1)) ≤ 16) = true := decide_eq_true c22
                            by_cases c23 : ((⟨#[48, 49, 50, 51, 52, 53, 54, 55, 56, 57, 97, 98, 99, 100, 101, 102]⟩ : ByteArray).extract ((ji19) : Int).toNat ((wrap64 ((ji19) + 1)) : Int).toNat).size + x8_3.size ≤ 9223372036854775807
                            · rw [if_pos c23] at H
                              have c23b0 := eq_true c23
                              have c23b1 : decide (((⟨#[48, 49, 50, 51, 52, 53, 54, 55, 56, 57, 97, 98, 99, 100, 101, 102]⟩ : ByteArray).extract ((ji19) : Int).toNat ((wrap64 ((ji19) + 1)) : Int).toNat).size + x8_3.size ≤ 9223372036854775807) = true := decide_eq_true c23
                              have c23b4 := c23
                              (try simp only [ByteArray.size_append, ByteArray.size_extract, Nat.min_self] at c23b4)
                              (try have c23b5 := Nat.not_lt.2 c23b4)
                              (try have c23b7 : ¬ 9223372036854775807 < ((⟨#[48, 49, 50, 51, 52, 53, 54, 55, 56, 57, 97, 98, 99, 100, 101, 102]⟩ : ByteArray).extract ((ji19) : Int).toNat ((wrap64 ((ji19) + 1)) : Int).toNat).size + x8_3.size := by have hh := c23; simp only [ByteArray.size_append] at hh; exact Nat.not_lt.2 hh)
                              try have c23b2 : (9223372036854775807 < ((⟨#[48, 49, 50, 51, 52, 53, 54, 55, 56, 57, 97, 98, 99, 100, 101, 102]⟩ : ByteArray).extract ((ji19) : Int).toNat ((wrap64 ((ji19) + 1)) : Int).toNat).size + x8_3.size) = False := eq_false (Nat.not_lt.2 c23)
                              have c24b0 := eq_true (of_decide_eq_true (by first | (with_reducible assumption) | assumption) : 0 ≤ (ji19))
                              have c25b0 := eq_true (of_decide_eq_true (by first | (with_reducible assumption) | assumption) : (ji19) ≤ (wrap64 ((ji19) + 1)))
                              have c26b0 := eq_true (of_decide_eq_true (by first | (with_reducible assumption) | assumption) : (wrap64 ((ji19) + 1)) ≤ 16)
                              by_cases c27 : ((⟨#[48, 49, 50, 51, 52, 53, 54, 55, 56, 57, 65, 66, 67, 68, 69, 70]⟩ : ByteArray).extract ((ji19) : Int).toNat ((wrap64 ((ji19) + 1)) : Int).toNat).size + x9_3.size ≤ 9223372036854775807
                              · rw [if_pos c27] at H
                                have c27b0 := eq_true c27
                                have c27b1 : decide (((⟨#[48, 49, 50, 51, 52, 53, 54, 55, 56, 57, 65, 66, 67, 68, 69, 70]⟩ : ByteArray).extract ((ji19) : Int).toNat ((wrap64 ((ji19) + 1)) : Int).toNat).size + x9_3.size ≤ 9223372036854775807) = true := decide_eq_true c27
                                have c27b4 := c27
                                (try simp only [ByteArray.size_append, ByteArray.size_extract, Nat.min_self] at c27b4)
                                (try have c27b5 := Nat.not_lt.2 c27b4)
                                (try have c27b7 : ¬ 9223372036854775807 < ((⟨#[48, 49, 50, 51, 52, 53, 54, 55, 56, 57, 65, 66, 67, 68, 69, 70]⟩ : ByteArray).extract ((ji19) : Int).toNat ((wrap64 ((ji19) + 1)) : Int).toNat).size + x9_3.size := by have hh := c27; simp only [ByteArray.size_append] at hh; exact Nat.not_lt.2 hh)
                                try have c27b2 : (9223372036854775807 < ((⟨#[48, 49, 50, 51, 52, 53, 54, 55, 56, 57, 65, 66, 67, 68, 69, 70]⟩ : ByteArray).extract ((ji19) : Int).toNat ((wrap64 ((ji19) + 1)) : Int).toNat).size + x9_3.size) = False := eq_false (Nat.not_lt.2 c27)
                                have H' := Aside0.mk H
                                clear H
                                go_wp2
                                go_roundg k3
                                case measure => have := HJ3.out; have := HK2.out; have := HK3.out; omega
                                case rel => exact ⟨(((⟨#[48, 49, 50, 51, 52, 53, 54, 55, 56, 57, 97, 98, 99, 100, 101, 102]⟩ : ByteArray).extract ((ji19) : Int).toNat ((wrap64 ((ji19) + 1)) : Int).toNat) ++ x8_3), (((⟨#[48, 49, 50, 51, 52, 53, 54, 55, 56, 57, 65, 66, 67, 68, 69, 70]⟩ : ByteArray).extract ((ji19) : Int).toNat ((wrap64 ((ji19) + 1)) : Int).toNat) ++ x9_3), (wrap64 (Int.tdiv x11_3 16)), (by first | rfl | (simp; done) | (simp only [← hji19] <;> (first | rfl | simp)) | (simp [*]; done)), (by first | rfl | (simp; done) | (simp only [← hji19] <;> (first | rfl | simp)) | (simp [*]; done)), (by first | rfl | (simp; done) | (simp [*]; done)), H', ⟨by have := HJ3.out; have := HK2.out; have := HK3.out; omega⟩, ⟨by repeat (first | (with_reducible first | exact HB.out | apply below_alloc | apply pw_below_drewN | apply below_drew1) | exact HB.out)⟩⟩
                              · rw [if_neg c27] at H
                                exact absurd H (by simp)
                            · rw [if_neg c23] at H
                              exact absurd H (by simp)
                          · rw [if_neg c22] at H
                            exact absurd H (by simp)
                        · rw [if_neg c21] at H
                          exact absurd H (by simp)
                      · rw [if_neg c20] at H
                        exact absurd H (by simp)
                    · rw [if_neg c18] at H
                      have c18b0 : decide (0 < x11_3) = false := decide_eq_false c18
                      clear c18
                      by_cases c28 : x8_3.toList = ([] : List UInt8)
                      · rw [if_pos c28] at H
                        have c28b0 : (x8_3.toList == ([] : List UInt8)) = true := beq_iff_eq.mpr c28
                        have c28b1 : (x8_3.toList != ([] : List UInt8)) = false := bne_eq_false_iff_eq.mpr c28
                        clear c28
                        obtain ⟨ji29, hji29⟩ : ∃ j_ : Int, (Int.tmod x11_3 16) = j_ := ⟨_, rfl⟩
                        replace H : (if 0 ≤ (ji29) then (if (ji29) ≤ (wrap64 ((ji29) + 1)) then (if (wrap64 ((ji29) + 1)) ≤ 16 then (if ((⟨#[48, 49, 50, 51, 52, 53, 54, 55, 56, 57, 97, 98, 99, 100, 101, 102]⟩ : ByteArray).extract ((ji29) : Int).toNat ((wrap64 ((ji29) + 1)) : Int).toNat).size + x8_3.size ≤ 9223372036854775807 then (if ((⟨#[48, 49, 50, 51, 52, 53, 54, 55, 56, 57, 65, 66, 67, 68, 69, 70]⟩ : ByteArray).extract ((ji29) : Int).toNat ((wrap64 ((ji29) + 1)) : Int).toNat).size + x9_3.size ≤ 9223372036854775807 then (incipitlaw04_EntityNumbers.l1 k3 a1 t130 (Go.bits .and .i64 a0 16777215) x7_2 (((⟨#[48, 49, 50, 51, 52, 53, 54, 55, 56, 57, 97, 98, 99, 100, 101, 102]⟩ : ByteArray).extract ((ji29) : Int).toNat ((wrap64 ((ji29) + 1)) : Int).toNat) ++ x8_3) (((⟨#[48, 49, 50, 51, 52, 53, 54, 55, 56, 57, 65, 66, 67, 68, 69, 70]⟩ : ByteArray).extract ((ji29) : Int).toNat ((wrap64 ((ji29) + 1)) : Int).toNat) ++ x9_3) (wrap64 (Int.tdiv x11_3 16))) else (none)) else (none)) else (none)) else (none)) else (none)) = some r := by first | (rw [hji29] at H; exact H) | (simp only [hji29] at H ⊢; exact H)
                        by_cases c30 : 0 ≤ (ji29)
                        · rw [if_pos c30] at H
                          have c30b0 := eq_true c30
                          have c30b1 : decide (0 ≤ (ji29)) = true := decide_eq_true c30
                          clear c30
                          by_cases c31 : (ji29) ≤ (wrap64 ((ji29) + 1))
                          · rw [if_pos c31] at H
                            have c31b0 := eq_true c31
                            have c31b1 : decide ((ji29) ≤ (wrap64 ((ji29) + 1))) = true := decide_eq_true c31
                            by_cases c32 : (wrap64 ((ji29) + 1)) ≤ 16
                            · rw [if_pos c32] at H
                              have c32b0 := eq_true c32
                              have c32b1 : decide ((wrap64 ((ji29) + 1)) ≤ 16) = true := decide_eq_true c32
                              by_cases c33 : ((⟨#[48, 49, 50, 51, 52, 53, 54, 55, 56, 57, 97, 98, 99, 100, 101, 102]⟩ : ByteArray).extract ((ji29) : Int).toNat ((wrap64 ((ji29) + 1)) : Int).toNat).size + x8_3.size ≤ 9223372036854775807
                              · rw [if_pos c33] at H
                                have c33b0 := eq_true c33
                                have c33b1 : decide (((⟨#[48, 49, 50, 51, 52, 53, 54, 55, 56, 57, 97, 98, 99, 100, 101, 102]⟩ : ByteArray).extract ((ji29) : Int).toNat ((wrap64 ((ji29) + 1)) : Int).toNat).size + x8_3.size ≤ 9223372036854775807) = true := decide_eq_true c33
                                have c33b4 := c33
                                (try simp only [ByteArray.size_append, ByteArray.size_extract, Nat.min_self] at c33b4)
                                (try have c33b5 := Nat.not_lt.2 c33b4)
                                (try have c33b7 : ¬ 9223372036854775807 < ((⟨#[48, 49, 50, 51, 52, 53, 54, 55, 56, 57, 97, 98, 99, 100, 101, 102]⟩ : ByteArray).extract ((ji29) : Int).toNat ((wrap64 ((ji29) + 1)) : Int).toNat).size + x8_3.size := by have hh := c33; simp only [ByteArray.size_append] at hh; exact Nat.not_lt.2 hh)
                                try have c33b2 : (9223372036854775807 < ((⟨#[48, 49, 50, 51, 52, 53, 54, 55, 56, 57, 97, 98, 99, 100, 101, 102]⟩ : ByteArray).extract ((ji29) : Int).toNat ((wrap64 ((ji29) + 1)) : Int).toNat).size + x8_3.size) = False := eq_false (Nat.not_lt.2 c33)
                                have c34b0 := eq_true (of_decide_eq_true (by first | (with_reducible assumption) | assumption) : 0 ≤ (ji29))
                                have c35b0 := eq_true (of_decide_eq_true (by first | (with_reducible assumption) | assumption) : (ji29) ≤ (wrap64 ((ji29) + 1)))
                                have c36b0 := eq_true (of_decide_eq_true (by first | (with_reducible assumption) | assumption) : (wrap64 ((ji29) + 1)) ≤ 16)
                                by_cases c37 : ((⟨#[48, 49, 50, 51, 52, 53, 54, 55, 56, 57, 65, 66, 67, 68, 69, 70]⟩ : ByteArray).extract ((ji29) : Int).toNat ((wrap64 ((ji29) + 1)) : Int).toNat).size + x9_3.size ≤ 9223372036854775807
                                · rw [if_pos c37] at H
                                  have c37b0 := eq_true c37
                                  have c37b1 : decide (((⟨#[48, 49, 50, 51, 52, 53, 54, 55, 56, 57, 65, 66, 67, 68, 69, 70]⟩ : ByteArray).extract ((ji29) : Int).toNat ((wrap64 ((ji29) + 1)) : Int).toNat).size + x9_3.size ≤ 9223372036854775807) = true := decide_eq_true c37
                                  have c37b4 := c37
                                  (try simp only [ByteArray.size_append, ByteArray.size_extract, Nat.min_self] at c37b4)
                                  (try have c37b5 := Nat.not_lt.2 c37b4)
                                  (try have c37b7 : ¬ 9223372036854775807 < ((⟨#[48, 49, 50, 51, 52, 53, 54, 55, 56, 57, 65, 66, 67, 68, 69, 70]⟩ : ByteArray).extract ((ji29) : Int).toNat ((wrap64 ((ji29) + 1)) : Int).toNat).size + x9_3.size := by have hh := c37; simp only [ByteArray.size_append] at hh; exact Nat.not_lt.2 hh)
                                  try have c37b2 : (9223372036854775807 < ((⟨#[48, 49, 50, 51, 52, 53, 54, 55, 56, 57, 65, 66, 67, 68, 69, 70]⟩ : ByteArray).extract ((ji29) : Int).toNat ((wrap64 ((ji29) + 1)) : Int).toNat).size + x9_3.size) = False := eq_false (Nat.not_lt.2 c37)
                                  have H' := Aside0.mk H
                                  clear H
                                  go_wp2
                                  go_roundg k3
                                  case measure => have := HJ3.out; have := HK2.out; have := HK3.out; omega
                                  case rel => exact ⟨(((⟨#[48, 49, 50, 51, 52, 53, 54, 55, 56, 57, 97, 98, 99, 100, 101, 102]⟩ : ByteArray).extract ((ji29) : Int).toNat ((wrap64 ((ji29) + 1)) : Int).toNat) ++ x8_3), (((⟨#[48, 49, 50, 51, 52, 53, 54, 55, 56, 57, 65, 66, 67, 68, 69, 70]⟩ : ByteArray).extract ((ji29) : Int).toNat ((wrap64 ((ji29) + 1)) : Int).toNat) ++ x9_3), (wrap64 (Int.tdiv x11_3 16)), (by first | rfl | (simp; done) | (simp only [← hji29] <;> (first | rfl | simp)) | (simp [*]; done)), (by first | rfl | (simp; done) | (simp only [← hji29] <;> (first | rfl | simp)) | (simp [*]; done)), (by first | rfl | (simp; done) | (simp [*]; done)), H', ⟨by have := HJ3.out; have := HK2.out; have := HK3.out; omega⟩, ⟨by repeat (first | (with_reducible first | exact HB.out | apply below_alloc | apply pw_below_drewN | apply below_drew1) | exact HB.out)⟩⟩
                                · rw [if_neg c37] at H
                                  exact absurd H (by simp)
                              · rw [if_neg c33] at H
                                exact absurd H (by simp)
                            · rw [if_neg c32] at H
                              exact absurd H (by simp)
                          · rw [if_neg c31] at H
                            exact absurd H (by simp)
                        · rw [if_neg c30] at H
                          exact absurd H (by simp)
                      · rw [if_neg c28] at H
                        have c28b0 : (x8_3.toList == ([] : List UInt8)) = false := beq_eq_false_iff_ne.mpr c28
                        have c28b1 : (x8_3.toList != ([] : List UInt8)) = true := bne_iff_ne.mpr c28
                        have HC38 := Aside0.mk H
                        clear H
                        go_upto_region 18 with (fail)
                        go_cut [80] (fun v80 wc => ∃ (kq : Nat) (x80_37 : Bool), v80 = .bool x80_37 ∧ Aside0 (incipitlaw04_EntityNumbers.j3 kq a1 t130 x7_2 x8_3 x9_3 (Go.Utf8.encode (wrap32 ((Go.bits .and .i64 a0 16777215)))) x80_37 = some r) ∧ Aside0 (kq ≤ k3) ∧ Aside0 (Below w.heap.size w wc))
                        case first =>
                          have H := HC38.out
                          clear HC38
                          by_cases c39 : (Go.bits .and .i64 a0 16777215) = 0
                          · rw [if_pos c39] at H
                            have c39b0 : ((Go.bits .and .i64 a0 16777215) == 0) = true := beq_iff_eq.mpr c39
                            have c39b1 : ((Go.bits .and .i64 a0 16777215) != 0) = false := bne_eq_false_iff_eq.mpr c39
                            clear c39
                            (first | rw [c39b0] | (simp only [i64_w, i32_w]; rw [c39b0]) | skip)
                            have H' := Aside0.mk H
                            clear H
                            go_wp2
                            go_meet
                            case rel => exact ⟨_, (true), (by first | rfl | (simp; done) | (simp [*]; done)), H', ⟨by have := HJ3.out; have := HK2.out; have := HK3.out; first | omega | exact Nat.le_refl _⟩, ⟨by repeat (first | (with_reducible first | exact HB.out | apply below_alloc | apply pw_below_drewN | apply below_drew1) | exact HB.out)⟩⟩
                          · rw [if_neg c39] at H
                            have c39b0 : ((Go.bits .and .i64 a0 16777215) == 0) = false := beq_eq_false_iff_ne.mpr c39
                            have c39b1 : ((Go.bits .and .i64 a0 16777215) != 0) = true := bne_iff_ne.mpr c39
                            (first | rw [c39b0] | (simp only [i64_w, i32_w]; rw [c39b0]) | skip)
                            have H' := Aside0.mk H
                            clear H
                            go_wp2
                            go_meet
                            case rel => exact ⟨_, (decide ((Go.bits .and .i64 a0 16777215) > 1114111)), (by first | rfl | (simp; done) | (simp [*]; done)), H', ⟨by have := HJ3.out; have := HK2.out; have := HK3.out; first | omega | exact Nat.le_refl _⟩, ⟨by repeat (first | (with_reducible first | exact HB.out | apply below_alloc | apply pw_below_drewN | apply below_drew1) | exact HB.out)⟩⟩
                        case rest =>
                          clear HC38
                          try clear c1
                          try clear hcv1
                          try clear c2
                          try clear p2
                          try clear c3
                          try clear p3
                          try clear c4
                          try clear c6
                          try clear c6b0
                          try clear c6b1
                          try clear p6
                          try clear c7
                          try clear c8
                          try clear c8b0
                          try clear c9
                          try clear c9b0
                          try clear c9b1
                          try clear c9b2
                          try clear hcv12
                          try clear c13
                          try clear c13b0
                          try clear c13b1
                          try clear c14
                          try clear c14b0
                          try clear c14b1
                          try clear c14b2
                          try clear hcv17
                          try clear c18
                          try clear c18b0
                          try clear c20
                          try clear c20b0
                          try clear c20b1
                          try clear c21
                          try clear c21b0
                          try clear c21b1
                          try clear c22
                          try clear c22b0
                          try clear c22b1
                          try clear c23
                          try clear c23b0
                          try clear c23b1
                          try clear c23b2
                          try clear c24
                          try clear c24b0
                          try clear c25
                          try clear c25b0
                          try clear c26
                          try clear c26b0
                          try clear c27
                          try clear c27b0
                          try clear c27b1
                          try clear c27b2
                          try clear c28
                          try clear c28b0
                          try clear c28b1
                          try clear c30
                          try clear c30b0
                          try clear c30b1
                          try clear c31
                          try clear c31b0
                          try clear c31b1
                          try clear c32
                          try clear c32b0
                          try clear c32b1
                          try clear p32
                          try clear c33
                          try clear c33b0
                          try clear c33b1
                          try clear c33b2
                          try clear c34
                          try clear c34b0
                          try clear c35
                          try clear c35b0
                          try clear c36
                          try clear c36b0
                          try clear c37
                          try clear c37b0
                          try clear c37b1
                          try clear c37b2
                          try clear c39
                          try clear c39b0
                          try clear c39b1
                          try clear p2
                          try clear p6
                          obtain ⟨kq, x80_37, rfl, HA, HJ37, HB⟩ := hcut
                          cases kq with
                          | zero => exact absurd HA.out (by simp [incipitlaw04_EntityNumbers.j3])
                          | succ kj37 =>
                            have H := HA.out
                            clear HA
                            simp only [incipitlaw04_EntityNumbers.j3] at H
                            by_cases c40 : x80_37 = true
                            · subst c40
                              have H1 : (if 2 + x7_2.size ≤ 9223372036854775807 then (if ((⟨#[38, 35]⟩ : ByteArray) ++ x7_2).size + 1 ≤ 9223372036854775807 then (if (((⟨#[38, 35]⟩ : ByteArray) ++ x7_2) ++ (⟨#[59]⟩ : ByteArray)).size + a1.size ≤ 9223372036854775807 then ((entity_Read.f ((((⟨#[38, 35]⟩ : ByteArray) ++ x7_2) ++ (⟨#[59]⟩ : ByteArray)) ++ a1)).bind fun bt137 => (if 3 + x8_3.size ≤ 9223372036854775807 then (if ((⟨#[38, 35, 120]⟩ : ByteArray) ++ x8_3).size + 1 ≤ 9223372036854775807 then (if (((⟨#[38, 35, 120]⟩ : ByteArray) ++ x8_3) ++ (⟨#[59]⟩ : ByteArray)).size + a1.size ≤ 9223372036854775807 then ((entity_Read.f ((((⟨#[38, 35, 120]⟩ : ByteArray) ++ x8_3) ++ (⟨#[59]⟩ : ByteArray)) ++ a1)).bind fun bt139 => (if 3 + x9_3.size ≤ 9223372036854775807 then (if ((⟨#[38, 35, 88]⟩ : ByteArray) ++ x9_3).size + 1 ≤ 9223372036854775807 then (if (((⟨#[38, 35, 88]⟩ : ByteArray) ++ x9_3) ++ (⟨#[59]⟩ : ByteArray)).size + a1.size ≤ 9223372036854775807 then ((entity_Read.f ((((⟨#[38, 35, 88]⟩ : ByteArray) ++ x9_3) ++ (⟨#[59]⟩ : ByteArray)) ++ a1)).bind fun bt141 => (if t130 = true then (if bt137.1.toList = ([239, 191, 189] : List UInt8) then (if bt139.1.toList = ([239, 191, 189] : List UInt8) then (if bt141.1.toList = ([239, 191, 189] : List UInt8) then (if bt137.2 = (wrap64 ((x7_2.size : Int) + 3)) then (if bt139.2 = (wrap64 ((x8_3.size : Int) + 4)) then (some (bt141.2 == bt139.2)) else (some false)) else (some false)) else (some false)) else (some false)) else (some false)) else (some false))) else (none)) else (none)) else (none))) else (none)) else (none)) else (none))) else (none)) else (none)) else (none)) = some r := by rw [if_pos rfl] at H; exact H
                              clear H
                              have H := H1
                              clear H1
                              by_cases c41 : 2 + x7_2.size ≤ 9223372036854775807
                              · rw [if_pos c41] at H
                                have c41b0 := eq_true c41
                                have c41b1 : decide (2 + x7_2.size ≤ 9223372036854775807) = true := decide_eq_true c41
                                try have c41b2 : (9223372036854775807 < 2 + x7_2.size) = False := eq_false (Nat.not_lt.2 c41)
                                by_cases c42 : ((⟨#[38, 35]⟩ : ByteArray) ++ x7_2).size + 1 ≤ 9223372036854775807
                                · rw [if_pos c42] at H
                                  have c42b0 := eq_true c42
                                  have c42b1 : decide (((⟨#[38, 35]⟩ : ByteArray) ++ x7_2).size + 1 ≤ 9223372036854775807) = true := decide_eq_true c42
                                  have c42b4 := c42
                                  (try simp only [ByteArray.size_append, ByteArray.size_extract, Nat.min_self] at c42b4)
                                  (try have c42b5 := Nat.not_lt.2 c42b4)
                                  (try have c42b7 : ¬ 9223372036854775807 < 2 + x7_2.size + 1 := by have hh := c42; simp only [ByteArray.size_append] at hh; exact Nat.not_lt.2 hh)
                                  try have c42b2 : (9223372036854775807 < ((⟨#[38, 35]⟩ : ByteArray) ++ x7_2).size + 1) = False := eq_false (Nat.not_lt.2 c42)
                                  by_cases c43 : (((⟨#[38, 35]⟩ : ByteArray) ++ x7_2) ++ (⟨#[59]⟩ : ByteArray)).size + a1.size ≤ 9223372036854775807
                                  · rw [if_pos c43] at H
                                    have c43b0 := eq_true c43
                                    have c43b1 : decide ((((⟨#[38, 35]⟩ : ByteArray) ++ x7_2) ++ (⟨#[59]⟩ : ByteArray)).size + a1.size ≤ 9223372036854775807) = true := decide_eq_true c43
                                    have c43b4 := c43
                                    (try simp only [ByteArray.size_append, ByteArray.size_extract, Nat.min_self] at c43b4)
                                    (try have c43b5 := Nat.not_lt.2 c43b4)
                                    (try have c43b7 : ¬ 9223372036854775807 < 2 + x7_2.size + 1 + a1.size := by have hh := c43; simp only [ByteArray.size_append] at hh; exact Nat.not_lt.2 hh)
                                    try have c43b2 : (9223372036854775807 < (((⟨#[38, 35]⟩ : ByteArray) ++ x7_2) ++ (⟨#[59]⟩ : ByteArray)).size + a1.size) = False := eq_false (Nat.not_lt.2 c43)
                                    replace H := Option.bind_eq_some_iff.mp H
                                    obtain ⟨⟨t137, t138⟩, A440, H⟩ := H
                                    replace H : (if 3 + x8_3.size ≤ 9223372036854775807 then (if ((⟨#[38, 35, 120]⟩ : ByteArray) ++ x8_3).size + 1 ≤ 9223372036854775807 then (if (((⟨#[38, 35, 120]⟩ : ByteArray) ++ x8_3) ++ (⟨#[59]⟩ : ByteArray)).size + a1.size ≤ 9223372036854775807 then ((entity_Read.f ((((⟨#[38, 35, 120]⟩ : ByteArray) ++ x8_3) ++ (⟨#[59]⟩ : ByteArray)) ++ a1)).bind fun bt139 => (if 3 + x9_3.size ≤ 9223372036854775807 then (if ((⟨#[38, 35, 88]⟩ : ByteArray) ++ x9_3).size + 1 ≤ 9223372036854775807 then (if (((⟨#[38, 35, 88]⟩ : ByteArray) ++ x9_3) ++ (⟨#[59]⟩ : ByteArray)).size + a1.size ≤ 9223372036854775807 then ((entity_Read.f ((((⟨#[38, 35, 88]⟩ : ByteArray) ++ x9_3) ++ (⟨#[59]⟩ : ByteArray)) ++ a1)).bind fun bt141 => (if t130 = true then (if t137.toList = ([239, 191, 189] : List UInt8) then (if bt139.1.toList = ([239, 191, 189] : List UInt8) then (if bt141.1.toList = ([239, 191, 189] : List UInt8) then (if t138 = (wrap64 ((x7_2.size : Int) + 3)) then (if bt139.2 = (wrap64 ((x8_3.size : Int) + 4)) then (some (bt141.2 == bt139.2)) else (some false)) else (some false)) else (some false)) else (some false)) else (some false)) else (some false))) else (none)) else (none)) else (none))) else (none)) else (none)) else (none)) = some r := H
                                    have A44 := Aside0.mk A440
                                    clear A440
                                    by_cases c45 : 3 + x8_3.size ≤ 9223372036854775807
                                    · rw [if_pos c45] at H
                                      have c45b0 := eq_true c45
                                      have c45b1 : decide (3 + x8_3.size ≤ 9223372036854775807) = true := decide_eq_true c45
                                      try have c45b2 : (9223372036854775807 < 3 + x8_3.size) = False := eq_false (Nat.not_lt.2 c45)
                                      by_cases c46 : ((⟨#[38, 35, 120]⟩ : ByteArray) ++ x8_3).size + 1 ≤ 9223372036854775807
                                      · rw [if_pos c46] at H
                                        have c46b0 := eq_true c46
                                        have c46b1 : decide (((⟨#[38, 35, 120]⟩ : ByteArray) ++ x8_3).size + 1 ≤ 9223372036854775807) = true := decide_eq_true c46
                                        have c46b4 := c46
                                        (try simp only [ByteArray.size_append, ByteArray.size_extract, Nat.min_self] at c46b4)
                                        (try have c46b5 := Nat.not_lt.2 c46b4)
                                        (try have c46b7 : ¬ 9223372036854775807 < 3 + x8_3.size + 1 := by have hh := c46; simp only [ByteArray.size_append] at hh; exact Nat.not_lt.2 hh)
                                        try have c46b2 : (9223372036854775807 < ((⟨#[38, 35, 120]⟩ : ByteArray) ++ x8_3).size + 1) = False := eq_false (Nat.not_lt.2 c46)
                                        by_cases c47 : (((⟨#[38, 35, 120]⟩ : ByteArray) ++ x8_3) ++ (⟨#[59]⟩ : ByteArray)).size + a1.size ≤ 9223372036854775807
                                        · rw [if_pos c47] at H
                                          have c47b0 := eq_true c47
                                          have c47b1 : decide ((((⟨#[38, 35, 120]⟩ : ByteArray) ++ x8_3) ++ (⟨#[59]⟩ : ByteArray)).size + a1.size ≤ 9223372036854775807) = true := decide_eq_true c47
                                          have c47b4 := c47
                                          (try simp only [ByteArray.size_append, ByteArray.size_extract, Nat.min_self] at c47b4)
                                          (try have c47b5 := Nat.not_lt.2 c47b4)
                                          (try have c47b7 : ¬ 9223372036854775807 < 3 + x8_3.size + 1 + a1.size := by have hh := c47; simp only [ByteArray.size_append] at hh; exact Nat.not_lt.2 hh)
                                          try have c47b2 : (9223372036854775807 < (((⟨#[38, 35, 120]⟩ : ByteArray) ++ x8_3) ++ (⟨#[59]⟩ : ByteArray)).size + a1.size) = False := eq_false (Nat.not_lt.2 c47)
                                          replace H := Option.bind_eq_some_iff.mp H
                                          obtain ⟨⟨t139, t140⟩, A480, H⟩ := H
                                          replace H : (if 3 + x9_3.size ≤ 9223372036854775807 then (if ((⟨#[38, 35, 88]⟩ : ByteArray) ++ x9_3).size + 1 ≤ 9223372036854775807 then (if (((⟨#[38, 35, 88]⟩ : ByteArray) ++ x9_3) ++ (⟨#[59]⟩ : ByteArray)).size + a1.size ≤ 9223372036854775807 then ((entity_Read.f ((((⟨#[38, 35, 88]⟩ : ByteArray) ++ x9_3) ++ (⟨#[59]⟩ : ByteArray)) ++ a1)).bind fun bt141 => (if t130 = true then (if t137.toList = ([239, 191, 189] : List UInt8) then (if t139.toList = ([239, 191, 189] : List UInt8) then (if bt141.1.toList = ([239, 191, 189] : List UInt8) then (if t138 = (wrap64 ((x7_2.size : Int) + 3)) then (if t140 = (wrap64 ((x8_3.size : Int) + 4)) then (some (bt141.2 == t140)) else (some false)) else (some false)) else (some false)) else (some false)) else (some false)) else (some false))) else (none)) else (none)) else (none)) = some r := H
                                          have A48 := Aside0.mk A480
                                          clear A480
                                          by_cases c49 : 3 + x9_3.size ≤ 9223372036854775807
                                          · rw [if_pos c49] at H
                                            have c49b0 := eq_true c49
                                            have c49b1 : decide (3 + x9_3.size ≤ 9223372036854775807) = true := decide_eq_true c49
                                            try have c49b2 : (9223372036854775807 < 3 + x9_3.size) = False := eq_false (Nat.not_lt.2 c49)
                                            by_cases c50 : ((⟨#[38, 35, 88]⟩ : ByteArray) ++ x9_3).size + 1 ≤ 9223372036854775807
                                            · rw [if_pos c50] at H
                                              have c50b0 := eq_true c50
                                              have c50b1 : decide (((⟨#[38, 35, 88]⟩ : ByteArray) ++ x9_3).size + 1 ≤ 9223372036854775807) = true := decide_eq_true c50
                                              have c50b4 := c50
                                              (try simp only [ByteArray.size_append, ByteArray.size_extract, Nat.min_self] at c50b4)
                                              (try have c50b5 := Nat.not_lt.2 c50b4)
                                              (try have c50b7 : ¬ 9223372036854775807 < 3 + x9_3.size + 1 := by have hh := c50; simp only [ByteArray.size_append] at hh; exact Nat.not_lt.2 hh)
                                              try have c50b2 : (9223372036854775807 < ((⟨#[38, 35, 88]⟩ : ByteArray) ++ x9_3).size + 1) = False := eq_false (Nat.not_lt.2 c50)
                                              by_cases c51 : (((⟨#[38, 35, 88]⟩ : ByteArray) ++ x9_3) ++ (⟨#[59]⟩ : ByteArray)).size + a1.size ≤ 9223372036854775807
                                              · rw [if_pos c51] at H
                                                have c51b0 := eq_true c51
                                                have c51b1 : decide ((((⟨#[38, 35, 88]⟩ : ByteArray) ++ x9_3) ++ (⟨#[59]⟩ : ByteArray)).size + a1.size ≤ 9223372036854775807) = true := decide_eq_true c51
                                                have c51b4 := c51
                                                (try simp only [ByteArray.size_append, ByteArray.size_extract, Nat.min_self] at c51b4)
                                                (try have c51b5 := Nat.not_lt.2 c51b4)
                                                (try have c51b7 : ¬ 9223372036854775807 < 3 + x9_3.size + 1 + a1.size := by have hh := c51; simp only [ByteArray.size_append] at hh; exact Nat.not_lt.2 hh)
                                                try have c51b2 : (9223372036854775807 < (((⟨#[38, 35, 88]⟩ : ByteArray) ++ x9_3) ++ (⟨#[59]⟩ : ByteArray)).size + a1.size) = False := eq_false (Nat.not_lt.2 c51)
                                                replace H := Option.bind_eq_some_iff.mp H
                                                obtain ⟨⟨t141, t142⟩, A520, H⟩ := H
                                                replace H : (if t130 = true then (if t137.toList = ([239, 191, 189] : List UInt8) then (if t139.toList = ([239, 191, 189] : List UInt8) then (if t141.toList = ([239, 191, 189] : List UInt8) then (if t138 = (wrap64 ((x7_2.size : Int) + 3)) then (if t140 = (wrap64 ((x8_3.size : Int) + 4)) then (some (t142 == t140)) else (some false)) else (some false)) else (some false)) else (some false)) else (some false)) else (some false)) = some r := H
                                                have A52 := Aside0.mk A520
                                                clear A520
                                                by_cases c53 : t130 = true
                                                · subst c53
                                                  have H1 : (if t137.toList = ([239, 191, 189] : List UInt8) then (if t139.toList = ([239, 191, 189] : List UInt8) then (if t141.toList = ([239, 191, 189] : List UInt8) then (if t138 = (wrap64 ((x7_2.size : Int) + 3)) then (if t140 = (wrap64 ((x8_3.size : Int) + 4)) then (some (t142 == t140)) else (some false)) else (some false)) else (some false)) else (some false)) else (some false)) = some r := by rw [if_pos rfl] at H; exact H
                                                  clear H
                                                  have H := H1
                                                  clear H1
                                                  by_cases c54 : t137.toList = ([239, 191, 189] : List UInt8)
                                                  · rw [if_pos c54] at H
                                                    have c54b0 : (t137.toList == ([239, 191, 189] : List UInt8)) = true := beq_iff_eq.mpr c54
                                                    have c54b1 : (t137.toList != ([239, 191, 189] : List UInt8)) = false := bne_eq_false_iff_eq.mpr c54
                                                    clear c54
                                                    by_cases c55 : t139.toList = ([239, 191, 189] : List UInt8)
                                                    · rw [if_pos c55] at H
                                                      have c55b0 : (t139.toList == ([239, 191, 189] : List UInt8)) = true := beq_iff_eq.mpr c55
                                                      have c55b1 : (t139.toList != ([239, 191, 189] : List UInt8)) = false := bne_eq_false_iff_eq.mpr c55
                                                      clear c55
                                                      by_cases c56 : t141.toList = ([239, 191, 189] : List UInt8)
                                                      · rw [if_pos c56] at H
                                                        have c56b0 : (t141.toList == ([239, 191, 189] : List UInt8)) = true := beq_iff_eq.mpr c56
                                                        have c56b1 : (t141.toList != ([239, 191, 189] : List UInt8)) = false := bne_eq_false_iff_eq.mpr c56
                                                        clear c56
                                                        by_cases c57 : t138 = (wrap64 ((x7_2.size : Int) + 3))
                                                        · rw [if_pos c57] at H
                                                          have c57b0 : (t138 == (wrap64 ((x7_2.size : Int) + 3))) = true := beq_iff_eq.mpr c57
                                                          (try have c57w : wrap64 ((x7_2.size : Int) + 3) = (x7_2.size : Int) + 3 := by first | exact szw c51b7 (by decide) (by decide) | exact szw c50b7 (by decide) (by decide) | exact szw c47b7 (by decide) (by decide) | exact szw c46b7 (by decide) (by decide) | exact szw c43b7 (by decide) (by decide) | exact szw c42b7 (by decide) (by decide) | exact szw c37b7 (by decide) (by decide) | exact szw c33b7 (by decide) (by decide) | exact szw c27b7 (by decide) (by decide) | exact szw c23b7 (by decide) (by decide))
                                                          (try have c57w2 : (t138 == (x7_2.size : Int) + 3) = true := by have h_ := c57b0; rw [c57w] at h_; exact h_)
                                                          (try have c57w1 : (t138 = (x7_2.size : Int) + 3) = True := eq_true (beq_iff_eq.1 c57w2))
                                                          (try clear c57w)
                                                          have c57b1 : (t138 != (wrap64 ((x7_2.size : Int) + 3))) = false := bne_eq_false_iff_eq.mpr c57
                                                          clear c57
                                                          by_cases c58 : t140 = (wrap64 ((x8_3.size : Int) + 4))
                                                          · rw [if_pos c58] at H
                                                            have c58b0 : (t140 == (wrap64 ((x8_3.size : Int) + 4))) = true := beq_iff_eq.mpr c58
                                                            (try have c58w : wrap64 ((x8_3.size : Int) + 4) = (x8_3.size : Int) + 4 := by first | exact szw c51b7 (by decide) (by decide) | exact szw c50b7 (by decide) (by decide) | exact szw c47b7 (by decide) (by decide) | exact szw c46b7 (by decide) (by decide) | exact szw c43b7 (by decide) (by decide) | exact szw c42b7 (by decide) (by decide) | exact szw c37b7 (by decide) (by decide) | exact szw c33b7 (by decide) (by decide) | exact szw c27b7 (by decide) (by decide) | exact szw c23b7 (by decide) (by decide))
                                                            (try have c58w2 : (t140 == (x8_3.size : Int) + 4) = true := by have h_ := c58b0; rw [c58w] at h_; exact h_)
                                                            (try have c58w1 : (t140 = (x8_3.size : Int) + 4) = True := eq_true (beq_iff_eq.1 c58w2))
                                                            (try clear c58w)
                                                            have c58b1 : (t140 != (wrap64 ((x8_3.size : Int) + 4))) = false := bne_eq_false_iff_eq.mpr c58
                                                            clear c58
                                                            obtain rfl := Option.some.inj H
                                                            go_wp2_with (first | ((with_reducible refine gate_callee (f := 10) rfl ?_); refine goesL_ (some 87) rfl rfl Tryd.func10 (by kernel_rfl) rfl #[.string ((((⟨#[38, 35]⟩ : ByteArray) ++ x7_2) ++ (⟨#[59]⟩ : ByteArray)) ++ a1)] rfl (by (try simp only [List.map_toArray, List.map_cons, List.map_nil]); first | done | rfl | (simp only [List.length_drop, List.length_take]; rfl)) ?_; (with_reducible refine (entity_Read.calls ((((⟨#[38, 35]⟩ : ByteArray) ++ x7_2) ++ (⟨#[59]⟩ : ByteArray)) ++ a1) t137 t138 _ ?side1 A44.out).mono ?_); (case side1 => exact Laid.go hLd (by repeat (first | (with_reducible first | exact HB.out | apply below_alloc | apply pw_below_drewN | apply below_drew1) | exact HB.out))); rintro e w59 ⟨rfl, hb⟩; refine ⟨_, rfl, ?_⟩; have n0_ := Aside0.mk (below_step (by repeat (first | (with_reducible first | exact HB.out | apply below_alloc | apply pw_below_drewN | apply below_drew1) | exact HB.out)) hb); clear HB; have HB := n0_; clear n0_; (try clear hb); (try clear hb2); (try clear hk); (try clear hi)) | ((with_reducible refine gate_callee (f := 10) rfl ?_); refine goesL_ (some 96) rfl rfl Tryd.func10 (by kernel_rfl) rfl #[.string ((((⟨#[38, 35, 120]⟩ : ByteArray) ++ x8_3) ++ (⟨#[59]⟩ : ByteArray)) ++ a1)] rfl (by (try simp only [List.map_toArray, List.map_cons, List.map_nil]); first | done | rfl | (simp only [List.length_drop, List.length_take]; rfl)) ?_; (with_reducible refine (entity_Read.calls ((((⟨#[38, 35, 120]⟩ : ByteArray) ++ x8_3) ++ (⟨#[59]⟩ : ByteArray)) ++ a1) t139 t140 _ ?side1 A48.out).mono ?_); (case side1 => exact Laid.go hLd (by repeat (first | (with_reducible first | exact HB.out | apply below_alloc | apply pw_below_drewN | apply below_drew1) | exact HB.out))); rintro e w60 ⟨rfl, hb⟩; refine ⟨_, rfl, ?_⟩; have n0_ := Aside0.mk (below_step (by repeat (first | (with_reducible first | exact HB.out | apply below_alloc | apply pw_below_drewN | apply below_drew1) | exact HB.out)) hb); clear HB; have HB := n0_; clear n0_; (try clear hb); (try clear hb2); (try clear hk); (try clear hi)) | ((with_reducible refine gate_callee (f := 10) rfl ?_); refine goesL_ (some 105) rfl rfl Tryd.func10 (by kernel_rfl) rfl #[.string ((((⟨#[38, 35, 88]⟩ : ByteArray) ++ x9_3) ++ (⟨#[59]⟩ : ByteArray)) ++ a1)] rfl (by (try simp only [List.map_toArray, List.map_cons, List.map_nil]); first | done | rfl | (simp only [List.length_drop, List.length_take]; rfl)) ?_; (with_reducible refine (entity_Read.calls ((((⟨#[38, 35, 88]⟩ : ByteArray) ++ x9_3) ++ (⟨#[59]⟩ : ByteArray)) ++ a1) t141 t142 _ ?side1 A52.out).mono ?_); (case side1 => exact Laid.go hLd (by repeat (first | (with_reducible first | exact HB.out | apply below_alloc | apply pw_below_drewN | apply below_drew1) | exact HB.out))); rintro e w61 ⟨rfl, hb⟩; refine ⟨_, rfl, ?_⟩; have n0_ := Aside0.mk (below_step (by repeat (first | (with_reducible first | exact HB.out | apply below_alloc | apply pw_below_drewN | apply below_drew1) | exact HB.out)) hb); clear HB; have HB := n0_; clear n0_; (try clear hb); (try clear hb2); (try clear hk); (try clear hi)))
                                                            go_ret
                                                            exact ⟨by first | rfl | (simp [errW_none, errW_some] <;> rfl) | (simp [*, errW_none, errW_some] <;> rfl), by repeat (first | (with_reducible first | exact HB.out | apply below_alloc | apply pw_below_drewN | apply below_drew1) | exact HB.out)⟩
                                                          · rw [if_neg c58] at H
                                                            have c58b0 : (t140 == (wrap64 ((x8_3.size : Int) + 4))) = false := beq_eq_false_iff_ne.mpr c58
                                                            (try have c58w : wrap64 ((x8_3.size : Int) + 4) = (x8_3.size : Int) + 4 := by first | exact szw c51b7 (by decide) (by decide) | exact szw c50b7 (by decide) (by decide) | exact szw c47b7 (by decide) (by decide) | exact szw c46b7 (by decide) (by decide) | exact szw c43b7 (by decide) (by decide) | exact szw c42b7 (by decide) (by decide) | exact szw c37b7 (by decide) (by decide) | exact szw c33b7 (by decide) (by decide) | exact szw c27b7 (by decide) (by decide) | exact szw c23b7 (by decide) (by decide))
                                                            (try have c58w2 : (t140 == (x8_3.size : Int) + 4) = false := by have h_ := c58b0; rw [c58w] at h_; exact h_)
                                                            (try have c58w1 : (t140 = (x8_3.size : Int) + 4) = False := eq_false (beq_eq_false_iff_ne.1 c58w2))
                                                            (try clear c58w)
                                                            have c58b1 : (t140 != (wrap64 ((x8_3.size : Int) + 4))) = true := bne_iff_ne.mpr c58
                                                            obtain rfl := Option.some.inj H
                                                            go_wp2_with (first | ((with_reducible refine gate_callee (f := 10) rfl ?_); refine goesL_ (some 87) rfl rfl Tryd.func10 (by kernel_rfl) rfl #[.string ((((⟨#[38, 35]⟩ : ByteArray) ++ x7_2) ++ (⟨#[59]⟩ : ByteArray)) ++ a1)] rfl (by (try simp only [List.map_toArray, List.map_cons, List.map_nil]); first | done | rfl | (simp only [List.length_drop, List.length_take]; rfl)) ?_; (with_reducible refine (entity_Read.calls ((((⟨#[38, 35]⟩ : ByteArray) ++ x7_2) ++ (⟨#[59]⟩ : ByteArray)) ++ a1) t137 t138 _ ?side1 A44.out).mono ?_); (case side1 => exact Laid.go hLd (by repeat (first | (with_reducible first | exact HB.out | apply below_alloc | apply pw_below_drewN | apply below_drew1) | exact HB.out))); rintro e w62 ⟨rfl, hb⟩; refine ⟨_, rfl, ?_⟩; have n0_ := Aside0.mk (below_step (by repeat (first | (with_reducible first | exact HB.out | apply below_alloc | apply pw_below_drewN | apply below_drew1) | exact HB.out)) hb); clear HB; have HB := n0_; clear n0_; (try clear hb); (try clear hb2); (try clear hk); (try clear hi)) | ((with_reducible refine gate_callee (f := 10) rfl ?_); refine goesL_ (some 96) rfl rfl Tryd.func10 (by kernel_rfl) rfl #[.string ((((⟨#[38, 35, 120]⟩ : ByteArray) ++ x8_3) ++ (⟨#[59]⟩ : ByteArray)) ++ a1)] rfl (by (try simp only [List.map_toArray, List.map_cons, List.map_nil]); first | done | rfl | (simp only [List.length_drop, List.length_take]; rfl)) ?_; (with_reducible refine (entity_Read.calls ((((⟨#[38, 35, 120]⟩ : ByteArray) ++ x8_3) ++ (⟨#[59]⟩ : ByteArray)) ++ a1) t139 t140 _ ?side1 A48.out).mono ?_); (case side1 => exact Laid.go hLd (by repeat (first | (with_reducible first | exact HB.out | apply below_alloc | apply pw_below_drewN | apply below_drew1) | exact HB.out))); rintro e w63 ⟨rfl, hb⟩; refine ⟨_, rfl, ?_⟩; have n0_ := Aside0.mk (below_step (by repeat (first | (with_reducible first | exact HB.out | apply below_alloc | apply pw_below_drewN | apply below_drew1) | exact HB.out)) hb); clear HB; have HB := n0_; clear n0_; (try clear hb); (try clear hb2); (try clear hk); (try clear hi)) | ((with_reducible refine gate_callee (f := 10) rfl ?_); refine goesL_ (some 105) rfl rfl Tryd.func10 (by kernel_rfl) rfl #[.string ((((⟨#[38, 35, 88]⟩ : ByteArray) ++ x9_3) ++ (⟨#[59]⟩ : ByteArray)) ++ a1)] rfl (by (try simp only [List.map_toArray, List.map_cons, List.map_nil]); first | done | rfl | (simp only [List.length_drop, List.length_take]; rfl)) ?_; (with_reducible refine (entity_Read.calls ((((⟨#[38, 35, 88]⟩ : ByteArray) ++ x9_3) ++ (⟨#[59]⟩ : ByteArray)) ++ a1) t141 t142 _ ?side1 A52.out).mono ?_); (case side1 => exact Laid.go hLd (by repeat (first | (with_reducible first | exact HB.out | apply below_alloc | apply pw_below_drewN | apply below_drew1) | exact HB.out))); rintro e w64 ⟨rfl, hb⟩; refine ⟨_, rfl, ?_⟩; have n0_ := Aside0.mk (below_step (by repeat (first | (with_reducible first | exact HB.out | apply below_alloc | apply pw_below_drewN | apply below_drew1) | exact HB.out)) hb); clear HB; have HB := n0_; clear n0_; (try clear hb); (try clear hb2); (try clear hk); (try clear hi)))
                                                            go_ret
                                                            exact ⟨by first | rfl | (simp [errW_none, errW_some] <;> rfl) | (simp [*, errW_none, errW_some] <;> rfl), by repeat (first | (with_reducible first | exact HB.out | apply below_alloc | apply pw_below_drewN | apply below_drew1) | exact HB.out)⟩
                                                        · rw [if_neg c57] at H
                                                          have c57b0 : (t138 == (wrap64 ((x7_2.size : Int) + 3))) = false := beq_eq_false_iff_ne.mpr c57
                                                          (try have c57w : wrap64 ((x7_2.size : Int) + 3) = (x7_2.size : Int) + 3 := by first | exact szw c51b7 (by decide) (by decide) | exact szw c50b7 (by decide) (by decide) | exact szw c47b7 (by decide) (by decide) | exact szw c46b7 (by decide) (by decide) | exact szw c43b7 (by decide) (by decide) | exact szw c42b7 (by decide) (by decide) | exact szw c37b7 (by decide) (by decide) | exact szw c33b7 (by decide) (by decide) | exact szw c27b7 (by decide) (by decide) | exact szw c23b7 (by decide) (by decide))
                                                          (try have c57w2 : (t138 == (x7_2.size : Int) + 3) = false := by have h_ := c57b0; rw [c57w] at h_; exact h_)
                                                          (try have c57w1 : (t138 = (x7_2.size : Int) + 3) = False := eq_false (beq_eq_false_iff_ne.1 c57w2))
                                                          (try clear c57w)
                                                          have c57b1 : (t138 != (wrap64 ((x7_2.size : Int) + 3))) = true := bne_iff_ne.mpr c57
                                                          obtain rfl := Option.some.inj H
                                                          go_wp2_with (first | ((with_reducible refine gate_callee (f := 10) rfl ?_); refine goesL_ (some 87) rfl rfl Tryd.func10 (by kernel_rfl) rfl #[.string ((((⟨#[38, 35]⟩ : ByteArray) ++ x7_2) ++ (⟨#[59]⟩ : ByteArray)) ++ a1)] rfl (by (try simp only [List.map_toArray, List.map_cons, List.map_nil]); first | done | rfl | (simp only [List.length_drop, List.length_take]; rfl)) ?_; (with_reducible refine (entity_Read.calls ((((⟨#[38, 35]⟩ : ByteArray) ++ x7_2) ++ (⟨#[59]⟩ : ByteArray)) ++ a1) t137 t138 _ ?side1 A44.out).mono ?_); (case side1 => exact Laid.go hLd (by repeat (first | (with_reducible first | exact HB.out | apply below_alloc | apply pw_below_drewN | apply below_drew1) | exact HB.out))); rintro e w65 ⟨rfl, hb⟩; refine ⟨_, rfl, ?_⟩; have n0_ := Aside0.mk (below_step (by repeat (first | (with_reducible first | exact HB.out | apply below_alloc | apply pw_below_drewN | apply below_drew1) | exact HB.out)) hb); clear HB; have HB := n0_; clear n0_; (try clear hb); (try clear hb2); (try clear hk); (try clear hi)) | ((with_reducible refine gate_callee (f := 10) rfl ?_); refine goesL_ (some 96) rfl rfl Tryd.func10 (by kernel_rfl) rfl #[.string ((((⟨#[38, 35, 120]⟩ : ByteArray) ++ x8_3) ++ (⟨#[59]⟩ : ByteArray)) ++ a1)] rfl (by (try simp only [List.map_toArray, List.map_cons, List.map_nil]); first | done | rfl | (simp only [List.length_drop, List.length_take]; rfl)) ?_; (with_reducible refine (entity_Read.calls ((((⟨#[38, 35, 120]⟩ : ByteArray) ++ x8_3) ++ (⟨#[59]⟩ : ByteArray)) ++ a1) t139 t140 _ ?side1 A48.out).mono ?_); (case side1 => exact Laid.go hLd (by repeat (first | (with_reducible first | exact HB.out | apply below_alloc | apply pw_below_drewN | apply below_drew1) | exact HB.out))); rintro e w66 ⟨rfl, hb⟩; refine ⟨_, rfl, ?_⟩; have n0_ := Aside0.mk (below_step (by repeat (first | (with_reducible first | exact HB.out | apply below_alloc | apply pw_below_drewN | apply below_drew1) | exact HB.out)) hb); clear HB; have HB := n0_; clear n0_; (try clear hb); (try clear hb2); (try clear hk); (try clear hi)) | ((with_reducible refine gate_callee (f := 10) rfl ?_); refine goesL_ (some 105) rfl rfl Tryd.func10 (by kernel_rfl) rfl #[.string ((((⟨#[38, 35, 88]⟩ : ByteArray) ++ x9_3) ++ (⟨#[59]⟩ : ByteArray)) ++ a1)] rfl (by (try simp only [List.map_toArray, List.map_cons, List.map_nil]); first | done | rfl | (simp only [List.length_drop, List.length_take]; rfl)) ?_; (with_reducible refine (entity_Read.calls ((((⟨#[38, 35, 88]⟩ : ByteArray) ++ x9_3) ++ (⟨#[59]⟩ : ByteArray)) ++ a1) t141 t142 _ ?side1 A52.out).mono ?_); (case side1 => exact Laid.go hLd (by repeat (first | (with_reducible first | exact HB.out | apply below_alloc | apply pw_below_drewN | apply below_drew1) | exact HB.out))); rintro e w67 ⟨rfl, hb⟩; refine ⟨_, rfl, ?_⟩; have n0_ := Aside0.mk (below_step (by repeat (first | (with_reducible first | exact HB.out | apply below_alloc | apply pw_below_drewN | apply below_drew1) | exact HB.out)) hb); clear HB; have HB := n0_; clear n0_; (try clear hb); (try clear hb2); (try clear hk); (try clear hi)))
                                                          go_ret
                                                          exact ⟨by first | rfl | (simp [errW_none, errW_some] <;> rfl) | (simp [*, errW_none, errW_some] <;> rfl), by repeat (first | (with_reducible first | exact HB.out | apply below_alloc | apply pw_below_drewN | apply below_drew1) | exact HB.out)⟩
                                                      · rw [if_neg c56] at H
                                                        have c56b0 : (t141.toList == ([239, 191, 189] : List UInt8)) = false := beq_eq_false_iff_ne.mpr c56
                                                        have c56b1 : (t141.toList != ([239, 191, 189] : List UInt8)) = true := bne_iff_ne.mpr c56
                                                        obtain rfl := Option.some.inj H
                                                        go_wp2_with (first | ((with_reducible refine gate_callee (f := 10) rfl ?_); refine goesL_ (some 87) rfl rfl Tryd.func10 (by kernel_rfl) rfl #[.string ((((⟨#[38, 35]⟩ : ByteArray) ++ x7_2) ++ (⟨#[59]⟩ : ByteArray)) ++ a1)] rfl (by (try simp only [List.map_toArray, List.map_cons, List.map_nil]); first | done | rfl | (simp only [List.length_drop, List.length_take]; rfl)) ?_; (with_reducible refine (entity_Read.calls ((((⟨#[38, 35]⟩ : ByteArray) ++ x7_2) ++ (⟨#[59]⟩ : ByteArray)) ++ a1) t137 t138 _ ?side1 A44.out).mono ?_); (case side1 => exact Laid.go hLd (by repeat (first | (with_reducible first | exact HB.out | apply below_alloc | apply pw_below_drewN | apply below_drew1) | exact HB.out))); rintro e w68 ⟨rfl, hb⟩; refine ⟨_, rfl, ?_⟩; have n0_ := Aside0.mk (below_step (by repeat (first | (with_reducible first | exact HB.out | apply below_alloc | apply pw_below_drewN | apply below_drew1) | exact HB.out)) hb); clear HB; have HB := n0_; clear n0_; (try clear hb); (try clear hb2); (try clear hk); (try clear hi)) | ((with_reducible refine gate_callee (f := 10) rfl ?_); refine goesL_ (some 96) rfl rfl Tryd.func10 (by kernel_rfl) rfl #[.string ((((⟨#[38, 35, 120]⟩ : ByteArray) ++ x8_3) ++ (⟨#[59]⟩ : ByteArray)) ++ a1)] rfl (by (try simp only [List.map_toArray, List.map_cons, List.map_nil]); first | done | rfl | (simp only [List.length_drop, List.length_take]; rfl)) ?_; (with_reducible refine (entity_Read.calls ((((⟨#[38, 35, 120]⟩ : ByteArray) ++ x8_3) ++ (⟨#[59]⟩ : ByteArray)) ++ a1) t139 t140 _ ?side1 A48.out).mono ?_); (case side1 => exact Laid.go hLd (by repeat (first | (with_reducible first | exact HB.out | apply below_alloc | apply pw_below_drewN | apply below_drew1) | exact HB.out))); rintro e w69 ⟨rfl, hb⟩; refine ⟨_, rfl, ?_⟩; have n0_ := Aside0.mk (below_step (by repeat (first | (with_reducible first | exact HB.out | apply below_alloc | apply pw_below_drewN | apply below_drew1) | exact HB.out)) hb); clear HB; have HB := n0_; clear n0_; (try clear hb); (try clear hb2); (try clear hk); (try clear hi)) | ((with_reducible refine gate_callee (f := 10) rfl ?_); refine goesL_ (some 105) rfl rfl Tryd.func10 (by kernel_rfl) rfl #[.string ((((⟨#[38, 35, 88]⟩ : ByteArray) ++ x9_3) ++ (⟨#[59]⟩ : ByteArray)) ++ a1)] rfl (by (try simp only [List.map_toArray, List.map_cons, List.map_nil]); first | done | rfl | (simp only [List.length_drop, List.length_take]; rfl)) ?_; (with_reducible refine (entity_Read.calls ((((⟨#[38, 35, 88]⟩ : ByteArray) ++ x9_3) ++ (⟨#[59]⟩ : ByteArray)) ++ a1) t141 t142 _ ?side1 A52.out).mono ?_); (case side1 => exact Laid.go hLd (by repeat (first | (with_reducible first | exact HB.out | apply below_alloc | apply pw_below_drewN | apply below_drew1) | exact HB.out))); rintro e w70 ⟨rfl, hb⟩; refine ⟨_, rfl, ?_⟩; have n0_ := Aside0.mk (below_step (by repeat (first | (with_reducible first | exact HB.out | apply below_alloc | apply pw_below_drewN | apply below_drew1) | exact HB.out)) hb); clear HB; have HB := n0_; clear n0_; (try clear hb); (try clear hb2); (try clear hk); (try clear hi)))
                                                        go_ret
                                                        exact ⟨by first | rfl | (simp [errW_none, errW_some] <;> rfl) | (simp [*, errW_none, errW_some] <;> rfl), by repeat (first | (with_reducible first | exact HB.out | apply below_alloc | apply pw_below_drewN | apply below_drew1) | exact HB.out)⟩
                                                    · rw [if_neg c55] at H
                                                      have c55b0 : (t139.toList == ([239, 191, 189] : List UInt8)) = false := beq_eq_false_iff_ne.mpr c55
                                                      have c55b1 : (t139.toList != ([239, 191, 189] : List UInt8)) = true := bne_iff_ne.mpr c55
                                                      obtain rfl := Option.some.inj H
                                                      go_wp2_with (first | ((with_reducible refine gate_callee (f := 10) rfl ?_); refine goesL_ (some 87) rfl rfl Tryd.func10 (by kernel_rfl) rfl #[.string ((((⟨#[38, 35]⟩ : ByteArray) ++ x7_2) ++ (⟨#[59]⟩ : ByteArray)) ++ a1)] rfl (by (try simp only [List.map_toArray, List.map_cons, List.map_nil]); first | done | rfl | (simp only [List.length_drop, List.length_take]; rfl)) ?_; (with_reducible refine (entity_Read.calls ((((⟨#[38, 35]⟩ : ByteArray) ++ x7_2) ++ (⟨#[59]⟩ : ByteArray)) ++ a1) t137 t138 _ ?side1 A44.out).mono ?_); (case side1 => exact Laid.go hLd (by repeat (first | (with_reducible first | exact HB.out | apply below_alloc | apply pw_below_drewN | apply below_drew1) | exact HB.out))); rintro e w71 ⟨rfl, hb⟩; refine ⟨_, rfl, ?_⟩; have n0_ := Aside0.mk (below_step (by repeat (first | (with_reducible first | exact HB.out | apply below_alloc | apply pw_below_drewN | apply below_drew1) | exact HB.out)) hb); clear HB; have HB := n0_; clear n0_; (try clear hb); (try clear hb2); (try clear hk); (try clear hi)) | ((with_reducible refine gate_callee (f := 10) rfl ?_); refine goesL_ (some 96) rfl rfl Tryd.func10 (by kernel_rfl) rfl #[.string ((((⟨#[38, 35, 120]⟩ : ByteArray) ++ x8_3) ++ (⟨#[59]⟩ : ByteArray)) ++ a1)] rfl (by (try simp only [List.map_toArray, List.map_cons, List.map_nil]); first | done | rfl | (simp only [List.length_drop, List.length_take]; rfl)) ?_; (with_reducible refine (entity_Read.calls ((((⟨#[38, 35, 120]⟩ : ByteArray) ++ x8_3) ++ (⟨#[59]⟩ : ByteArray)) ++ a1) t139 t140 _ ?side1 A48.out).mono ?_); (case side1 => exact Laid.go hLd (by repeat (first | (with_reducible first | exact HB.out | apply below_alloc | apply pw_below_drewN | apply below_drew1) | exact HB.out))); rintro e w72 ⟨rfl, hb⟩; refine ⟨_, rfl, ?_⟩; have n0_ := Aside0.mk (below_step (by repeat (first | (with_reducible first | exact HB.out | apply below_alloc | apply pw_below_drewN | apply below_drew1) | exact HB.out)) hb); clear HB; have HB := n0_; clear n0_; (try clear hb); (try clear hb2); (try clear hk); (try clear hi)) | ((with_reducible refine gate_callee (f := 10) rfl ?_); refine goesL_ (some 105) rfl rfl Tryd.func10 (by kernel_rfl) rfl #[.string ((((⟨#[38, 35, 88]⟩ : ByteArray) ++ x9_3) ++ (⟨#[59]⟩ : ByteArray)) ++ a1)] rfl (by (try simp only [List.map_toArray, List.map_cons, List.map_nil]); first | done | rfl | (simp only [List.length_drop, List.length_take]; rfl)) ?_; (with_reducible refine (entity_Read.calls ((((⟨#[38, 35, 88]⟩ : ByteArray) ++ x9_3) ++ (⟨#[59]⟩ : ByteArray)) ++ a1) t141 t142 _ ?side1 A52.out).mono ?_); (case side1 => exact Laid.go hLd (by repeat (first | (with_reducible first | exact HB.out | apply below_alloc | apply pw_below_drewN | apply below_drew1) | exact HB.out))); rintro e w73 ⟨rfl, hb⟩; refine ⟨_, rfl, ?_⟩; have n0_ := Aside0.mk (below_step (by repeat (first | (with_reducible first | exact HB.out | apply below_alloc | apply pw_below_drewN | apply below_drew1) | exact HB.out)) hb); clear HB; have HB := n0_; clear n0_; (try clear hb); (try clear hb2); (try clear hk); (try clear hi)))
                                                      go_ret
                                                      exact ⟨by first | rfl | (simp [errW_none, errW_some] <;> rfl) | (simp [*, errW_none, errW_some] <;> rfl), by repeat (first | (with_reducible first | exact HB.out | apply below_alloc | apply pw_below_drewN | apply below_drew1) | exact HB.out)⟩
                                                  · rw [if_neg c54] at H
                                                    have c54b0 : (t137.toList == ([239, 191, 189] : List UInt8)) = false := beq_eq_false_iff_ne.mpr c54
                                                    have c54b1 : (t137.toList != ([239, 191, 189] : List UInt8)) = true := bne_iff_ne.mpr c54
                                                    obtain rfl := Option.some.inj H
                                                    go_wp2_with (first | ((with_reducible refine gate_callee (f := 10) rfl ?_); refine goesL_ (some 87) rfl rfl Tryd.func10 (by kernel_rfl) rfl #[.string ((((⟨#[38, 35]⟩ : ByteArray) ++ x7_2) ++ (⟨#[59]⟩ : ByteArray)) ++ a1)] rfl (by (try simp only [List.map_toArray, List.map_cons, List.map_nil]); first | done | rfl | (simp only [List.length_drop, List.length_take]; rfl)) ?_; (with_reducible refine (entity_Read.calls ((((⟨#[38, 35]⟩ : ByteArray) ++ x7_2) ++ (⟨#[59]⟩ : ByteArray)) ++ a1) t137 t138 _ ?side1 A44.out).mono ?_); (case side1 => exact Laid.go hLd (by repeat (first | (with_reducible first | exact HB.out | apply below_alloc | apply pw_below_drewN | apply below_drew1) | exact HB.out))); rintro e w74 ⟨rfl, hb⟩; refine ⟨_, rfl, ?_⟩; have n0_ := Aside0.mk (below_step (by repeat (first | (with_reducible first | exact HB.out | apply below_alloc | apply pw_below_drewN | apply below_drew1) | exact HB.out)) hb); clear HB; have HB := n0_; clear n0_; (try clear hb); (try clear hb2); (try clear hk); (try clear hi)) | ((with_reducible refine gate_callee (f := 10) rfl ?_); refine goesL_ (some 96) rfl rfl Tryd.func10 (by kernel_rfl) rfl #[.string ((((⟨#[38, 35, 120]⟩ : ByteArray) ++ x8_3) ++ (⟨#[59]⟩ : ByteArray)) ++ a1)] rfl (by (try simp only [List.map_toArray, List.map_cons, List.map_nil]); first | done | rfl | (simp only [List.length_drop, List.length_take]; rfl)) ?_; (with_reducible refine (entity_Read.calls ((((⟨#[38, 35, 120]⟩ : ByteArray) ++ x8_3) ++ (⟨#[59]⟩ : ByteArray)) ++ a1) t139 t140 _ ?side1 A48.out).mono ?_); (case side1 => exact Laid.go hLd (by repeat (first | (with_reducible first | exact HB.out | apply below_alloc | apply pw_below_drewN | apply below_drew1) | exact HB.out))); rintro e w75 ⟨rfl, hb⟩; refine ⟨_, rfl, ?_⟩; have n0_ := Aside0.mk (below_step (by repeat (first | (with_reducible first | exact HB.out | apply below_alloc | apply pw_below_drewN | apply below_drew1) | exact HB.out)) hb); clear HB; have HB := n0_; clear n0_; (try clear hb); (try clear hb2); (try clear hk); (try clear hi)) | ((with_reducible refine gate_callee (f := 10) rfl ?_); refine goesL_ (some 105) rfl rfl Tryd.func10 (by kernel_rfl) rfl #[.string ((((⟨#[38, 35, 88]⟩ : ByteArray) ++ x9_3) ++ (⟨#[59]⟩ : ByteArray)) ++ a1)] rfl (by (try simp only [List.map_toArray, List.map_cons, List.map_nil]); first | done | rfl | (simp only [List.length_drop, List.length_take]; rfl)) ?_; (with_reducible refine (entity_Read.calls ((((⟨#[38, 35, 88]⟩ : ByteArray) ++ x9_3) ++ (⟨#[59]⟩ : ByteArray)) ++ a1) t141 t142 _ ?side1 A52.out).mono ?_); (case side1 => exact Laid.go hLd (by repeat (first | (with_reducible first | exact HB.out | apply below_alloc | apply pw_below_drewN | apply below_drew1) | exact HB.out))); rintro e w76 ⟨rfl, hb⟩; refine ⟨_, rfl, ?_⟩; have n0_ := Aside0.mk (below_step (by repeat (first | (with_reducible first | exact HB.out | apply below_alloc | apply pw_below_drewN | apply below_drew1) | exact HB.out)) hb); clear HB; have HB := n0_; clear n0_; (try clear hb); (try clear hb2); (try clear hk); (try clear hi)))
                                                    go_ret
                                                    exact ⟨by first | rfl | (simp [errW_none, errW_some] <;> rfl) | (simp [*, errW_none, errW_some] <;> rfl), by repeat (first | (with_reducible first | exact HB.out | apply below_alloc | apply pw_below_drewN | apply below_drew1) | exact HB.out)⟩
                                                · replace c53 := Bool.eq_false_iff.mpr c53
                                                  subst c53
                                                  have H1 : (some false) = some r := by rw [if_neg (show ¬ (false = true) by decide)] at H; exact H
                                                  clear H
                                                  have H := H1
                                                  clear H1
                                                  obtain rfl := Option.some.inj H
                                                  go_wp2_with (first | ((with_reducible refine gate_callee (f := 10) rfl ?_); refine goesL_ (some 87) rfl rfl Tryd.func10 (by kernel_rfl) rfl #[.string ((((⟨#[38, 35]⟩ : ByteArray) ++ x7_2) ++ (⟨#[59]⟩ : ByteArray)) ++ a1)] rfl (by (try simp only [List.map_toArray, List.map_cons, List.map_nil]); first | done | rfl | (simp only [List.length_drop, List.length_take]; rfl)) ?_; (with_reducible refine (entity_Read.calls ((((⟨#[38, 35]⟩ : ByteArray) ++ x7_2) ++ (⟨#[59]⟩ : ByteArray)) ++ a1) t137 t138 _ ?side1 A44.out).mono ?_); (case side1 => exact Laid.go hLd (by repeat (first | (with_reducible first | exact HB.out | apply below_alloc | apply pw_below_drewN | apply below_drew1) | exact HB.out))); rintro e w77 ⟨rfl, hb⟩; refine ⟨_, rfl, ?_⟩; have n0_ := Aside0.mk (below_step (by repeat (first | (with_reducible first | exact HB.out | apply below_alloc | apply pw_below_drewN | apply below_drew1) | exact HB.out)) hb); clear HB; have HB := n0_; clear n0_; (try clear hb); (try clear hb2); (try clear hk); (try clear hi)) | ((with_reducible refine gate_callee (f := 10) rfl ?_); refine goesL_ (some 96) rfl rfl Tryd.func10 (by kernel_rfl) rfl #[.string ((((⟨#[38, 35, 120]⟩ : ByteArray) ++ x8_3) ++ (⟨#[59]⟩ : ByteArray)) ++ a1)] rfl (by (try simp only [List.map_toArray, List.map_cons, List.map_nil]); first | done | rfl | (simp only [List.length_drop, List.length_take]; rfl)) ?_; (with_reducible refine (entity_Read.calls ((((⟨#[38, 35, 120]⟩ : ByteArray) ++ x8_3) ++ (⟨#[59]⟩ : ByteArray)) ++ a1) t139 t140 _ ?side1 A48.out).mono ?_); (case side1 => exact Laid.go hLd (by repeat (first | (with_reducible first | exact HB.out | apply below_alloc | apply pw_below_drewN | apply below_drew1) | exact HB.out))); rintro e w78 ⟨rfl, hb⟩; refine ⟨_, rfl, ?_⟩; have n0_ := Aside0.mk (below_step (by repeat (first | (with_reducible first | exact HB.out | apply below_alloc | apply pw_below_drewN | apply below_drew1) | exact HB.out)) hb); clear HB; have HB := n0_; clear n0_; (try clear hb); (try clear hb2); (try clear hk); (try clear hi)) | ((with_reducible refine gate_callee (f := 10) rfl ?_); refine goesL_ (some 105) rfl rfl Tryd.func10 (by kernel_rfl) rfl #[.string ((((⟨#[38, 35, 88]⟩ : ByteArray) ++ x9_3) ++ (⟨#[59]⟩ : ByteArray)) ++ a1)] rfl (by (try simp only [List.map_toArray, List.map_cons, List.map_nil]); first | done | rfl | (simp only [List.length_drop, List.length_take]; rfl)) ?_; (with_reducible refine (entity_Read.calls ((((⟨#[38, 35, 88]⟩ : ByteArray) ++ x9_3) ++ (⟨#[59]⟩ : ByteArray)) ++ a1) t141 t142 _ ?side1 A52.out).mono ?_); (case side1 => exact Laid.go hLd (by repeat (first | (with_reducible first | exact HB.out | apply below_alloc | apply pw_below_drewN | apply below_drew1) | exact HB.out))); rintro e w79 ⟨rfl, hb⟩; refine ⟨_, rfl, ?_⟩; have n0_ := Aside0.mk (below_step (by repeat (first | (with_reducible first | exact HB.out | apply below_alloc | apply pw_below_drewN | apply below_drew1) | exact HB.out)) hb); clear HB; have HB := n0_; clear n0_; (try clear hb); (try clear hb2); (try clear hk); (try clear hi)))
                                                  go_ret
                                                  exact ⟨by first | rfl | (simp [errW_none, errW_some] <;> rfl) | (simp [*, errW_none, errW_some] <;> rfl), by repeat (first | (with_reducible first | exact HB.out | apply below_alloc | apply pw_below_drewN | apply below_drew1) | exact HB.out)⟩
                                              · rw [if_neg c51] at H
                                                exact absurd H (by simp)
                                            · rw [if_neg c50] at H
                                              exact absurd H (by simp)
                                          · rw [if_neg c49] at H
                                            exact absurd H (by simp)
                                        · rw [if_neg c47] at H
                                          exact absurd H (by simp)
                                      · rw [if_neg c46] at H
                                        exact absurd H (by simp)
                                    · rw [if_neg c45] at H
                                      exact absurd H (by simp)
                                  · rw [if_neg c43] at H
                                    exact absurd H (by simp)
                                · rw [if_neg c42] at H
                                  exact absurd H (by simp)
                              · rw [if_neg c41] at H
                                exact absurd H (by simp)
                            · replace c40 := Bool.eq_false_iff.mpr c40
                              subst c40
                              have H1 : (if 2 + x7_2.size ≤ 9223372036854775807 then (if ((⟨#[38, 35]⟩ : ByteArray) ++ x7_2).size + 1 ≤ 9223372036854775807 then (if (((⟨#[38, 35]⟩ : ByteArray) ++ x7_2) ++ (⟨#[59]⟩ : ByteArray)).size + a1.size ≤ 9223372036854775807 then ((entity_Read.f ((((⟨#[38, 35]⟩ : ByteArray) ++ x7_2) ++ (⟨#[59]⟩ : ByteArray)) ++ a1)).bind fun bt143 => (if 3 + x8_3.size ≤ 9223372036854775807 then (if ((⟨#[38, 35, 120]⟩ : ByteArray) ++ x8_3).size + 1 ≤ 9223372036854775807 then (if (((⟨#[38, 35, 120]⟩ : ByteArray) ++ x8_3) ++ (⟨#[59]⟩ : ByteArray)).size + a1.size ≤ 9223372036854775807 then ((entity_Read.f ((((⟨#[38, 35, 120]⟩ : ByteArray) ++ x8_3) ++ (⟨#[59]⟩ : ByteArray)) ++ a1)).bind fun bt145 => (if 3 + x9_3.size ≤ 9223372036854775807 then (if ((⟨#[38, 35, 88]⟩ : ByteArray) ++ x9_3).size + 1 ≤ 9223372036854775807 then (if (((⟨#[38, 35, 88]⟩ : ByteArray) ++ x9_3) ++ (⟨#[59]⟩ : ByteArray)).size + a1.size ≤ 9223372036854775807 then ((entity_Read.f ((((⟨#[38, 35, 88]⟩ : ByteArray) ++ x9_3) ++ (⟨#[59]⟩ : ByteArray)) ++ a1)).bind fun bt147 => (if t130 = true then (if bt143.1.toList = (Go.Utf8.encode (wrap32 ((Go.bits .and .i64 a0 16777215)))).toList then (if bt145.1.toList = (Go.Utf8.encode (wrap32 ((Go.bits .and .i64 a0 16777215)))).toList then (if bt147.1.toList = (Go.Utf8.encode (wrap32 ((Go.bits .and .i64 a0 16777215)))).toList then (if bt143.2 = (wrap64 ((x7_2.size : Int) + 3)) then (if bt145.2 = (wrap64 ((x8_3.size : Int) + 4)) then (some (bt147.2 == bt145.2)) else (some false)) else (some false)) else (some false)) else (some false)) else (some false)) else (some false))) else (none)) else (none)) else (none))) else (none)) else (none)) else (none))) else (none)) else (none)) else (none)) = some r := by rw [if_neg (show ¬ (false = true) by decide)] at H; exact H
                              clear H
                              have H := H1
                              clear H1
                              by_cases c80 : 2 + x7_2.size ≤ 9223372036854775807
                              · rw [if_pos c80] at H
                                have c80b0 := eq_true c80
                                have c80b1 : decide (2 + x7_2.size ≤ 9223372036854775807) = true := decide_eq_true c80
                                try have c80b2 : (9223372036854775807 < 2 + x7_2.size) = False := eq_false (Nat.not_lt.2 c80)
                                by_cases c81 : ((⟨#[38, 35]⟩ : ByteArray) ++ x7_2).size + 1 ≤ 9223372036854775807
                                · rw [if_pos c81] at H
                                  have c81b0 := eq_true c81
                                  have c81b1 : decide (((⟨#[38, 35]⟩ : ByteArray) ++ x7_2).size + 1 ≤ 9223372036854775807) = true := decide_eq_true c81
                                  have c81b4 := c81
                                  (try simp only [ByteArray.size_append, ByteArray.size_extract, Nat.min_self] at c81b4)
                                  (try have c81b5 := Nat.not_lt.2 c81b4)
                                  (try have c81b7 : ¬ 9223372036854775807 < 2 + x7_2.size + 1 := by have hh := c81; simp only [ByteArray.size_append] at hh; exact Nat.not_lt.2 hh)
                                  try have c81b2 : (9223372036854775807 < ((⟨#[38, 35]⟩ : ByteArray) ++ x7_2).size + 1) = False := eq_false (Nat.not_lt.2 c81)
                                  by_cases c82 : (((⟨#[38, 35]⟩ : ByteArray) ++ x7_2) ++ (⟨#[59]⟩ : ByteArray)).size + a1.size ≤ 9223372036854775807
                                  · rw [if_pos c82] at H
                                    have c82b0 := eq_true c82
                                    have c82b1 : decide ((((⟨#[38, 35]⟩ : ByteArray) ++ x7_2) ++ (⟨#[59]⟩ : ByteArray)).size + a1.size ≤ 9223372036854775807) = true := decide_eq_true c82
                                    have c82b4 := c82
                                    (try simp only [ByteArray.size_append, ByteArray.size_extract, Nat.min_self] at c82b4)
                                    (try have c82b5 := Nat.not_lt.2 c82b4)
                                    (try have c82b7 : ¬ 9223372036854775807 < 2 + x7_2.size + 1 + a1.size := by have hh := c82; simp only [ByteArray.size_append] at hh; exact Nat.not_lt.2 hh)
                                    try have c82b2 : (9223372036854775807 < (((⟨#[38, 35]⟩ : ByteArray) ++ x7_2) ++ (⟨#[59]⟩ : ByteArray)).size + a1.size) = False := eq_false (Nat.not_lt.2 c82)
                                    replace H := Option.bind_eq_some_iff.mp H
                                    obtain ⟨⟨t143, t144⟩, A830, H⟩ := H
                                    replace H : (if 3 + x8_3.size ≤ 9223372036854775807 then (if ((⟨#[38, 35, 120]⟩ : ByteArray) ++ x8_3).size + 1 ≤ 9223372036854775807 then (if (((⟨#[38, 35, 120]⟩ : ByteArray) ++ x8_3) ++ (⟨#[59]⟩ : ByteArray)).size + a1.size ≤ 9223372036854775807 then ((entity_Read.f ((((⟨#[38, 35, 120]⟩ : ByteArray) ++ x8_3) ++ (⟨#[59]⟩ : ByteArray)) ++ a1)).bind fun bt145 => (if 3 + x9_3.size ≤ 9223372036854775807 then (if ((⟨#[38, 35, 88]⟩ : ByteArray) ++ x9_3).size + 1 ≤ 9223372036854775807 then (if (((⟨#[38, 35, 88]⟩ : ByteArray) ++ x9_3) ++ (⟨#[59]⟩ : ByteArray)).size + a1.size ≤ 9223372036854775807 then ((entity_Read.f ((((⟨#[38, 35, 88]⟩ : ByteArray) ++ x9_3) ++ (⟨#[59]⟩ : ByteArray)) ++ a1)).bind fun bt147 => (if t130 = true then (if t143.toList = (Go.Utf8.encode (wrap32 ((Go.bits .and .i64 a0 16777215)))).toList then (if bt145.1.toList = (Go.Utf8.encode (wrap32 ((Go.bits .and .i64 a0 16777215)))).toList then (if bt147.1.toList = (Go.Utf8.encode (wrap32 ((Go.bits .and .i64 a0 16777215)))).toList then (if t144 = (wrap64 ((x7_2.size : Int) + 3)) then (if bt145.2 = (wrap64 ((x8_3.size : Int) + 4)) then (some (bt147.2 == bt145.2)) else (some false)) else (some false)) else (some false)) else (some false)) else (some false)) else (some false))) else (none)) else (none)) else (none))) else (none)) else (none)) else (none)) = some r := H
                                    have A83 := Aside0.mk A830
                                    clear A830
                                    by_cases c84 : 3 + x8_3.size ≤ 9223372036854775807
                                    · rw [if_pos c84] at H
                                      have c84b0 := eq_true c84
                                      have c84b1 : decide (3 + x8_3.size ≤ 9223372036854775807) = true := decide_eq_true c84
                                      try have c84b2 : (9223372036854775807 < 3 + x8_3.size) = False := eq_false (Nat.not_lt.2 c84)
                                      by_cases c85 : ((⟨#[38, 35, 120]⟩ : ByteArray) ++ x8_3).size + 1 ≤ 9223372036854775807
                                      · rw [if_pos c85] at H
                                        have c85b0 := eq_true c85
                                        have c85b1 : decide (((⟨#[38, 35, 120]⟩ : ByteArray) ++ x8_3).size + 1 ≤ 9223372036854775807) = true := decide_eq_true c85
                                        have c85b4 := c85
                                        (try simp only [ByteArray.size_append, ByteArray.size_extract, Nat.min_self] at c85b4)
                                        (try have c85b5 := Nat.not_lt.2 c85b4)
                                        (try have c85b7 : ¬ 9223372036854775807 < 3 + x8_3.size + 1 := by have hh := c85; simp only [ByteArray.size_append] at hh; exact Nat.not_lt.2 hh)
                                        try have c85b2 : (9223372036854775807 < ((⟨#[38, 35, 120]⟩ : ByteArray) ++ x8_3).size + 1) = False := eq_false (Nat.not_lt.2 c85)
                                        by_cases c86 : (((⟨#[38, 35, 120]⟩ : ByteArray) ++ x8_3) ++ (⟨#[59]⟩ : ByteArray)).size + a1.size ≤ 9223372036854775807
                                        · rw [if_pos c86] at H
                                          have c86b0 := eq_true c86
                                          have c86b1 : decide ((((⟨#[38, 35, 120]⟩ : ByteArray) ++ x8_3) ++ (⟨#[59]⟩ : ByteArray)).size + a1.size ≤ 9223372036854775807) = true := decide_eq_true c86
                                          have c86b4 := c86
                                          (try simp only [ByteArray.size_append, ByteArray.size_extract, Nat.min_self] at c86b4)
                                          (try have c86b5 := Nat.not_lt.2 c86b4)
                                          (try have c86b7 : ¬ 9223372036854775807 < 3 + x8_3.size + 1 + a1.size := by have hh := c86; simp only [ByteArray.size_append] at hh; exact Nat.not_lt.2 hh)
                                          try have c86b2 : (9223372036854775807 < (((⟨#[38, 35, 120]⟩ : ByteArray) ++ x8_3) ++ (⟨#[59]⟩ : ByteArray)).size + a1.size) = False := eq_false (Nat.not_lt.2 c86)
                                          replace H := Option.bind_eq_some_iff.mp H
                                          obtain ⟨⟨t145, t146⟩, A870, H⟩ := H
                                          replace H : (if 3 + x9_3.size ≤ 9223372036854775807 then (if ((⟨#[38, 35, 88]⟩ : ByteArray) ++ x9_3).size + 1 ≤ 9223372036854775807 then (if (((⟨#[38, 35, 88]⟩ : ByteArray) ++ x9_3) ++ (⟨#[59]⟩ : ByteArray)).size + a1.size ≤ 9223372036854775807 then ((entity_Read.f ((((⟨#[38, 35, 88]⟩ : ByteArray) ++ x9_3) ++ (⟨#[59]⟩ : ByteArray)) ++ a1)).bind fun bt147 => (if t130 = true then (if t143.toList = (Go.Utf8.encode (wrap32 ((Go.bits .and .i64 a0 16777215)))).toList then (if t145.toList = (Go.Utf8.encode (wrap32 ((Go.bits .and .i64 a0 16777215)))).toList then (if bt147.1.toList = (Go.Utf8.encode (wrap32 ((Go.bits .and .i64 a0 16777215)))).toList then (if t144 = (wrap64 ((x7_2.size : Int) + 3)) then (if t146 = (wrap64 ((x8_3.size : Int) + 4)) then (some (bt147.2 == t146)) else (some false)) else (some false)) else (some false)) else (some false)) else (some false)) else (some false))) else (none)) else (none)) else (none)) = some r := H
                                          have A87 := Aside0.mk A870
                                          clear A870
                                          by_cases c88 : 3 + x9_3.size ≤ 9223372036854775807
                                          · rw [if_pos c88] at H
                                            have c88b0 := eq_true c88
                                            have c88b1 : decide (3 + x9_3.size ≤ 9223372036854775807) = true := decide_eq_true c88
                                            try have c88b2 : (9223372036854775807 < 3 + x9_3.size) = False := eq_false (Nat.not_lt.2 c88)
                                            by_cases c89 : ((⟨#[38, 35, 88]⟩ : ByteArray) ++ x9_3).size + 1 ≤ 9223372036854775807
                                            · rw [if_pos c89] at H
                                              have c89b0 := eq_true c89
                                              have c89b1 : decide (((⟨#[38, 35, 88]⟩ : ByteArray) ++ x9_3).size + 1 ≤ 9223372036854775807) = true := decide_eq_true c89
                                              have c89b4 := c89
                                              (try simp only [ByteArray.size_append, ByteArray.size_extract, Nat.min_self] at c89b4)
                                              (try have c89b5 := Nat.not_lt.2 c89b4)
                                              (try have c89b7 : ¬ 9223372036854775807 < 3 + x9_3.size + 1 := by have hh := c89; simp only [ByteArray.size_append] at hh; exact Nat.not_lt.2 hh)
                                              try have c89b2 : (9223372036854775807 < ((⟨#[38, 35, 88]⟩ : ByteArray) ++ x9_3).size + 1) = False := eq_false (Nat.not_lt.2 c89)
                                              by_cases c90 : (((⟨#[38, 35, 88]⟩ : ByteArray) ++ x9_3) ++ (⟨#[59]⟩ : ByteArray)).size + a1.size ≤ 9223372036854775807
                                              · rw [if_pos c90] at H
                                                have c90b0 := eq_true c90
                                                have c90b1 : decide ((((⟨#[38, 35, 88]⟩ : ByteArray) ++ x9_3) ++ (⟨#[59]⟩ : ByteArray)).size + a1.size ≤ 9223372036854775807) = true := decide_eq_true c90
                                                have c90b4 := c90
                                                (try simp only [ByteArray.size_append, ByteArray.size_extract, Nat.min_self] at c90b4)
                                                (try have c90b5 := Nat.not_lt.2 c90b4)
                                                (try have c90b7 : ¬ 9223372036854775807 < 3 + x9_3.size + 1 + a1.size := by have hh := c90; simp only [ByteArray.size_append] at hh; exact Nat.not_lt.2 hh)
                                                try have c90b2 : (9223372036854775807 < (((⟨#[38, 35, 88]⟩ : ByteArray) ++ x9_3) ++ (⟨#[59]⟩ : ByteArray)).size + a1.size) = False := eq_false (Nat.not_lt.2 c90)
                                                replace H := Option.bind_eq_some_iff.mp H
                                                obtain ⟨⟨t147, t148⟩, A910, H⟩ := H
                                                replace H : (if t130 = true then (if t143.toList = (Go.Utf8.encode (wrap32 ((Go.bits .and .i64 a0 16777215)))).toList then (if t145.toList = (Go.Utf8.encode (wrap32 ((Go.bits .and .i64 a0 16777215)))).toList then (if t147.toList = (Go.Utf8.encode (wrap32 ((Go.bits .and .i64 a0 16777215)))).toList then (if t144 = (wrap64 ((x7_2.size : Int) + 3)) then (if t146 = (wrap64 ((x8_3.size : Int) + 4)) then (some (t148 == t146)) else (some false)) else (some false)) else (some false)) else (some false)) else (some false)) else (some false)) = some r := H
                                                have A91 := Aside0.mk A910
                                                clear A910
                                                by_cases c92 : t130 = true
                                                · subst c92
                                                  have H1 : (if t143.toList = (Go.Utf8.encode (wrap32 ((Go.bits .and .i64 a0 16777215)))).toList then (if t145.toList = (Go.Utf8.encode (wrap32 ((Go.bits .and .i64 a0 16777215)))).toList then (if t147.toList = (Go.Utf8.encode (wrap32 ((Go.bits .and .i64 a0 16777215)))).toList then (if t144 = (wrap64 ((x7_2.size : Int) + 3)) then (if t146 = (wrap64 ((x8_3.size : Int) + 4)) then (some (t148 == t146)) else (some false)) else (some false)) else (some false)) else (some false)) else (some false)) = some r := by rw [if_pos rfl] at H; exact H
                                                  clear H
                                                  have H := H1
                                                  clear H1
                                                  by_cases c93 : t143.toList = (Go.Utf8.encode (wrap32 ((Go.bits .and .i64 a0 16777215)))).toList
                                                  · rw [if_pos c93] at H
                                                    have c93b0 : (t143.toList == (Go.Utf8.encode (wrap32 ((Go.bits .and .i64 a0 16777215)))).toList) = true := beq_iff_eq.mpr c93
                                                    have c93b1 : (t143.toList != (Go.Utf8.encode (wrap32 ((Go.bits .and .i64 a0 16777215)))).toList) = false := bne_eq_false_iff_eq.mpr c93
                                                    clear c93
                                                    by_cases c94 : t145.toList = (Go.Utf8.encode (wrap32 ((Go.bits .and .i64 a0 16777215)))).toList
                                                    · rw [if_pos c94] at H
                                                      have c94b0 : (t145.toList == (Go.Utf8.encode (wrap32 ((Go.bits .and .i64 a0 16777215)))).toList) = true := beq_iff_eq.mpr c94
                                                      have c94b1 : (t145.toList != (Go.Utf8.encode (wrap32 ((Go.bits .and .i64 a0 16777215)))).toList) = false := bne_eq_false_iff_eq.mpr c94
                                                      clear c94
                                                      by_cases c95 : t147.toList = (Go.Utf8.encode (wrap32 ((Go.bits .and .i64 a0 16777215)))).toList
                                                      · rw [if_pos c95] at H
                                                        have c95b0 : (t147.toList == (Go.Utf8.encode (wrap32 ((Go.bits .and .i64 a0 16777215)))).toList) = true := beq_iff_eq.mpr c95
                                                        have c95b1 : (t147.toList != (Go.Utf8.encode (wrap32 ((Go.bits .and .i64 a0 16777215)))).toList) = false := bne_eq_false_iff_eq.mpr c95
                                                        clear c95
                                                        by_cases c96 : t144 = (wrap64 ((x7_2.size : Int) + 3))
                                                        · rw [if_pos c96] at H
                                                          have c96b0 : (t144 == (wrap64 ((x7_2.size : Int) + 3))) = true := beq_iff_eq.mpr c96
                                                          (try have c96w : wrap64 ((x7_2.size : Int) + 3) = (x7_2.size : Int) + 3 := by first | exact szw c90b7 (by decide) (by decide) | exact szw c89b7 (by decide) (by decide) | exact szw c86b7 (by decide) (by decide) | exact szw c85b7 (by decide) (by decide) | exact szw c82b7 (by decide) (by decide) | exact szw c81b7 (by decide) (by decide) | exact szw c51b7 (by decide) (by decide) | exact szw c50b7 (by decide) (by decide) | exact szw c47b7 (by decide) (by decide) | exact szw c46b7 (by decide) (by decide) | exact szw c43b7 (by decide) (by decide) | exact szw c42b7 (by decide) (by decide) | exact szw c37b7 (by decide) (by decide) | exact szw c33b7 (by decide) (by decide) | exact szw c27b7 (by decide) (by decide) | exact szw c23b7 (by decide) (by decide))
                                                          (try have c96w2 : (t144 == (x7_2.size : Int) + 3) = true := by have h_ := c96b0; rw [c96w] at h_; exact h_)
                                                          (try have c96w1 : (t144 = (x7_2.size : Int) + 3) = True := eq_true (beq_iff_eq.1 c96w2))
                                                          (try clear c96w)
                                                          have c96b1 : (t144 != (wrap64 ((x7_2.size : Int) + 3))) = false := bne_eq_false_iff_eq.mpr c96
                                                          clear c96
                                                          by_cases c97 : t146 = (wrap64 ((x8_3.size : Int) + 4))
                                                          · rw [if_pos c97] at H
                                                            have c97b0 : (t146 == (wrap64 ((x8_3.size : Int) + 4))) = true := beq_iff_eq.mpr c97
                                                            (try have c97w : wrap64 ((x8_3.size : Int) + 4) = (x8_3.size : Int) + 4 := by first | exact szw c90b7 (by decide) (by decide) | exact szw c89b7 (by decide) (by decide) | exact szw c86b7 (by decide) (by decide) | exact szw c85b7 (by decide) (by decide) | exact szw c82b7 (by decide) (by decide) | exact szw c81b7 (by decide) (by decide) | exact szw c51b7 (by decide) (by decide) | exact szw c50b7 (by decide) (by decide) | exact szw c47b7 (by decide) (by decide) | exact szw c46b7 (by decide) (by decide) | exact szw c43b7 (by decide) (by decide) | exact szw c42b7 (by decide) (by decide) | exact szw c37b7 (by decide) (by decide) | exact szw c33b7 (by decide) (by decide) | exact szw c27b7 (by decide) (by decide) | exact szw c23b7 (by decide) (by decide))
                                                            (try have c97w2 : (t146 == (x8_3.size : Int) + 4) = true := by have h_ := c97b0; rw [c97w] at h_; exact h_)
                                                            (try have c97w1 : (t146 = (x8_3.size : Int) + 4) = True := eq_true (beq_iff_eq.1 c97w2))
                                                            (try clear c97w)
                                                            have c97b1 : (t146 != (wrap64 ((x8_3.size : Int) + 4))) = false := bne_eq_false_iff_eq.mpr c97
                                                            clear c97
                                                            obtain rfl := Option.some.inj H
                                                            go_wp2_with (first | ((with_reducible refine gate_callee (f := 10) rfl ?_); refine goesL_ (some 87) rfl rfl Tryd.func10 (by kernel_rfl) rfl #[.string ((((⟨#[38, 35]⟩ : ByteArray) ++ x7_2) ++ (⟨#[59]⟩ : ByteArray)) ++ a1)] rfl (by (try simp only [List.map_toArray, List.map_cons, List.map_nil]); first | done | rfl | (simp only [List.length_drop, List.length_take]; rfl)) ?_; (with_reducible refine (entity_Read.calls ((((⟨#[38, 35]⟩ : ByteArray) ++ x7_2) ++ (⟨#[59]⟩ : ByteArray)) ++ a1) t143 t144 _ ?side1 A83.out).mono ?_); (case side1 => exact Laid.go hLd (by repeat (first | (with_reducible first | exact HB.out | apply below_alloc | apply pw_below_drewN | apply below_drew1) | exact HB.out))); rintro e w98 ⟨rfl, hb⟩; refine ⟨_, rfl, ?_⟩; have n0_ := Aside0.mk (below_step (by repeat (first | (with_reducible first | exact HB.out | apply below_alloc | apply pw_below_drewN | apply below_drew1) | exact HB.out)) hb); clear HB; have HB := n0_; clear n0_; (try clear hb); (try clear hb2); (try clear hk); (try clear hi)) | ((with_reducible refine gate_callee (f := 10) rfl ?_); refine goesL_ (some 96) rfl rfl Tryd.func10 (by kernel_rfl) rfl #[.string ((((⟨#[38, 35, 120]⟩ : ByteArray) ++ x8_3) ++ (⟨#[59]⟩ : ByteArray)) ++ a1)] rfl (by (try simp only [List.map_toArray, List.map_cons, List.map_nil]); first | done | rfl | (simp only [List.length_drop, List.length_take]; rfl)) ?_; (with_reducible refine (entity_Read.calls ((((⟨#[38, 35, 120]⟩ : ByteArray) ++ x8_3) ++ (⟨#[59]⟩ : ByteArray)) ++ a1) t145 t146 _ ?side1 A87.out).mono ?_); (case side1 => exact Laid.go hLd (by repeat (first | (with_reducible first | exact HB.out | apply below_alloc | apply pw_below_drewN | apply below_drew1) | exact HB.out))); rintro e w99 ⟨rfl, hb⟩; refine ⟨_, rfl, ?_⟩; have n0_ := Aside0.mk (below_step (by repeat (first | (with_reducible first | exact HB.out | apply below_alloc | apply pw_below_drewN | apply below_drew1) | exact HB.out)) hb); clear HB; have HB := n0_; clear n0_; (try clear hb); (try clear hb2); (try clear hk); (try clear hi)) | ((with_reducible refine gate_callee (f := 10) rfl ?_); refine goesL_ (some 105) rfl rfl Tryd.func10 (by kernel_rfl) rfl #[.string ((((⟨#[38, 35, 88]⟩ : ByteArray) ++ x9_3) ++ (⟨#[59]⟩ : ByteArray)) ++ a1)] rfl (by (try simp only [List.map_toArray, List.map_cons, List.map_nil]); first | done | rfl | (simp only [List.length_drop, List.length_take]; rfl)) ?_; (with_reducible refine (entity_Read.calls ((((⟨#[38, 35, 88]⟩ : ByteArray) ++ x9_3) ++ (⟨#[59]⟩ : ByteArray)) ++ a1) t147 t148 _ ?side1 A91.out).mono ?_); (case side1 => exact Laid.go hLd (by repeat (first | (with_reducible first | exact HB.out | apply below_alloc | apply pw_below_drewN | apply below_drew1) | exact HB.out))); rintro e w100 ⟨rfl, hb⟩; refine ⟨_, rfl, ?_⟩; have n0_ := Aside0.mk (below_step (by repeat (first | (with_reducible first | exact HB.out | apply below_alloc | apply pw_below_drewN | apply below_drew1) | exact HB.out)) hb); clear HB; have HB := n0_; clear n0_; (try clear hb); (try clear hb2); (try clear hk); (try clear hi)))
                                                            go_ret
                                                            exact ⟨by first | rfl | (simp [errW_none, errW_some] <;> rfl) | (simp [*, errW_none, errW_some] <;> rfl), by repeat (first | (with_reducible first | exact HB.out | apply below_alloc | apply pw_below_drewN | apply below_drew1) | exact HB.out)⟩
                                                          · rw [if_neg c97] at H
                                                            have c97b0 : (t146 == (wrap64 ((x8_3.size : Int) + 4))) = false := beq_eq_false_iff_ne.mpr c97
                                                            (try have c97w : wrap64 ((x8_3.size : Int) + 4) = (x8_3.size : Int) + 4 := by first | exact szw c90b7 (by decide) (by decide) | exact szw c89b7 (by decide) (by decide) | exact szw c86b7 (by decide) (by decide) | exact szw c85b7 (by decide) (by decide) | exact szw c82b7 (by decide) (by decide) | exact szw c81b7 (by decide) (by decide) | exact szw c51b7 (by decide) (by decide) | exact szw c50b7 (by decide) (by decide) | exact szw c47b7 (by decide) (by decide) | exact szw c46b7 (by decide) (by decide) | exact szw c43b7 (by decide) (by decide) | exact szw c42b7 (by decide) (by decide) | exact szw c37b7 (by decide) (by decide) | exact szw c33b7 (by decide) (by decide) | exact szw c27b7 (by decide) (by decide) | exact szw c23b7 (by decide) (by decide))
                                                            (try have c97w2 : (t146 == (x8_3.size : Int) + 4) = false := by have h_ := c97b0; rw [c97w] at h_; exact h_)
                                                            (try have c97w1 : (t146 = (x8_3.size : Int) + 4) = False := eq_false (beq_eq_false_iff_ne.1 c97w2))
                                                            (try clear c97w)
                                                            have c97b1 : (t146 != (wrap64 ((x8_3.size : Int) + 4))) = true := bne_iff_ne.mpr c97
                                                            obtain rfl := Option.some.inj H
                                                            go_wp2_with (first | ((with_reducible refine gate_callee (f := 10) rfl ?_); refine goesL_ (some 87) rfl rfl Tryd.func10 (by kernel_rfl) rfl #[.string ((((⟨#[38, 35]⟩ : ByteArray) ++ x7_2) ++ (⟨#[59]⟩ : ByteArray)) ++ a1)] rfl (by (try simp only [List.map_toArray, List.map_cons, List.map_nil]); first | done | rfl | (simp only [List.length_drop, List.length_take]; rfl)) ?_; (with_reducible refine (entity_Read.calls ((((⟨#[38, 35]⟩ : ByteArray) ++ x7_2) ++ (⟨#[59]⟩ : ByteArray)) ++ a1) t143 t144 _ ?side1 A83.out).mono ?_); (case side1 => exact Laid.go hLd (by repeat (first | (with_reducible first | exact HB.out | apply below_alloc | apply pw_below_drewN | apply below_drew1) | exact HB.out))); rintro e w101 ⟨rfl, hb⟩; refine ⟨_, rfl, ?_⟩; have n0_ := Aside0.mk (below_step (by repeat (first | (with_reducible first | exact HB.out | apply below_alloc | apply pw_below_drewN | apply below_drew1) | exact HB.out)) hb); clear HB; have HB := n0_; clear n0_; (try clear hb); (try clear hb2); (try clear hk); (try clear hi)) | ((with_reducible refine gate_callee (f := 10) rfl ?_); refine goesL_ (some 96) rfl rfl Tryd.func10 (by kernel_rfl) rfl #[.string ((((⟨#[38, 35, 120]⟩ : ByteArray) ++ x8_3) ++ (⟨#[59]⟩ : ByteArray)) ++ a1)] rfl (by (try simp only [List.map_toArray, List.map_cons, List.map_nil]); first | done | rfl | (simp only [List.length_drop, List.length_take]; rfl)) ?_; (with_reducible refine (entity_Read.calls ((((⟨#[38, 35, 120]⟩ : ByteArray) ++ x8_3) ++ (⟨#[59]⟩ : ByteArray)) ++ a1) t145 t146 _ ?side1 A87.out).mono ?_); (case side1 => exact Laid.go hLd (by repeat (first | (with_reducible first | exact HB.out | apply below_alloc | apply pw_below_drewN | apply below_drew1) | exact HB.out))); rintro e w102 ⟨rfl, hb⟩; refine ⟨_, rfl, ?_⟩; have n0_ := Aside0.mk (below_step (by repeat (first | (with_reducible first | exact HB.out | apply below_alloc | apply pw_below_drewN | apply below_drew1) | exact HB.out)) hb); clear HB; have HB := n0_; clear n0_; (try clear hb); (try clear hb2); (try clear hk); (try clear hi)) | ((with_reducible refine gate_callee (f := 10) rfl ?_); refine goesL_ (some 105) rfl rfl Tryd.func10 (by kernel_rfl) rfl #[.string ((((⟨#[38, 35, 88]⟩ : ByteArray) ++ x9_3) ++ (⟨#[59]⟩ : ByteArray)) ++ a1)] rfl (by (try simp only [List.map_toArray, List.map_cons, List.map_nil]); first | done | rfl | (simp only [List.length_drop, List.length_take]; rfl)) ?_; (with_reducible refine (entity_Read.calls ((((⟨#[38, 35, 88]⟩ : ByteArray) ++ x9_3) ++ (⟨#[59]⟩ : ByteArray)) ++ a1) t147 t148 _ ?side1 A91.out).mono ?_); (case side1 => exact Laid.go hLd (by repeat (first | (with_reducible first | exact HB.out | apply below_alloc | apply pw_below_drewN | apply below_drew1) | exact HB.out))); rintro e w103 ⟨rfl, hb⟩; refine ⟨_, rfl, ?_⟩; have n0_ := Aside0.mk (below_step (by repeat (first | (with_reducible first | exact HB.out | apply below_alloc | apply pw_below_drewN | apply below_drew1) | exact HB.out)) hb); clear HB; have HB := n0_; clear n0_; (try clear hb); (try clear hb2); (try clear hk); (try clear hi)))
                                                            go_ret
                                                            exact ⟨by first | rfl | (simp [errW_none, errW_some] <;> rfl) | (simp [*, errW_none, errW_some] <;> rfl), by repeat (first | (with_reducible first | exact HB.out | apply below_alloc | apply pw_below_drewN | apply below_drew1) | exact HB.out)⟩
                                                        · rw [if_neg c96] at H
                                                          have c96b0 : (t144 == (wrap64 ((x7_2.size : Int) + 3))) = false := beq_eq_false_iff_ne.mpr c96
                                                          (try have c96w : wrap64 ((x7_2.size : Int) + 3) = (x7_2.size : Int) + 3 := by first | exact szw c90b7 (by decide) (by decide) | exact szw c89b7 (by decide) (by decide) | exact szw c86b7 (by decide) (by decide) | exact szw c85b7 (by decide) (by decide) | exact szw c82b7 (by decide) (by decide) | exact szw c81b7 (by decide) (by decide) | exact szw c51b7 (by decide) (by decide) | exact szw c50b7 (by decide) (by decide) | exact szw c47b7 (by decide) (by decide) | exact szw c46b7 (by decide) (by decide) | exact szw c43b7 (by decide) (by decide) | exact szw c42b7 (by decide) (by decide) | exact szw c37b7 (by decide) (by decide) | exact szw c33b7 (by decide) (by decide) | exact szw c27b7 (by decide) (by decide) | exact szw c23b7 (by decide) (by decide))
                                                          (try have c96w2 : (t144 == (x7_2.size : Int) + 3) = false := by have h_ := c96b0; rw [c96w] at h_; exact h_)
                                                          (try have c96w1 : (t144 = (x7_2.size : Int) + 3) = False := eq_false (beq_eq_false_iff_ne.1 c96w2))
                                                          (try clear c96w)
                                                          have c96b1 : (t144 != (wrap64 ((x7_2.size : Int) + 3))) = true := bne_iff_ne.mpr c96
                                                          obtain rfl := Option.some.inj H
                                                          go_wp2_with (first | ((with_reducible refine gate_callee (f := 10) rfl ?_); refine goesL_ (some 87) rfl rfl Tryd.func10 (by kernel_rfl) rfl #[.string ((((⟨#[38, 35]⟩ : ByteArray) ++ x7_2) ++ (⟨#[59]⟩ : ByteArray)) ++ a1)] rfl (by (try simp only [List.map_toArray, List.map_cons, List.map_nil]); first | done | rfl | (simp only [List.length_drop, List.length_take]; rfl)) ?_; (with_reducible refine (entity_Read.calls ((((⟨#[38, 35]⟩ : ByteArray) ++ x7_2) ++ (⟨#[59]⟩ : ByteArray)) ++ a1) t143 t144 _ ?side1 A83.out).mono ?_); (case side1 => exact Laid.go hLd (by repeat (first | (with_reducible first | exact HB.out | apply below_alloc | apply pw_below_drewN | apply below_drew1) | exact HB.out))); rintro e w104 ⟨rfl, hb⟩; refine ⟨_, rfl, ?_⟩; have n0_ := Aside0.mk (below_step (by repeat (first | (with_reducible first | exact HB.out | apply below_alloc | apply pw_below_drewN | apply below_drew1) | exact HB.out)) hb); clear HB; have HB := n0_; clear n0_; (try clear hb); (try clear hb2); (try clear hk); (try clear hi)) | ((with_reducible refine gate_callee (f := 10) rfl ?_); refine goesL_ (some 96) rfl rfl Tryd.func10 (by kernel_rfl) rfl #[.string ((((⟨#[38, 35, 120]⟩ : ByteArray) ++ x8_3) ++ (⟨#[59]⟩ : ByteArray)) ++ a1)] rfl (by (try simp only [List.map_toArray, List.map_cons, List.map_nil]); first | done | rfl | (simp only [List.length_drop, List.length_take]; rfl)) ?_; (with_reducible refine (entity_Read.calls ((((⟨#[38, 35, 120]⟩ : ByteArray) ++ x8_3) ++ (⟨#[59]⟩ : ByteArray)) ++ a1) t145 t146 _ ?side1 A87.out).mono ?_); (case side1 => exact Laid.go hLd (by repeat (first | (with_reducible first | exact HB.out | apply below_alloc | apply pw_below_drewN | apply below_drew1) | exact HB.out))); rintro e w105 ⟨rfl, hb⟩; refine ⟨_, rfl, ?_⟩; have n0_ := Aside0.mk (below_step (by repeat (first | (with_reducible first | exact HB.out | apply below_alloc | apply pw_below_drewN | apply below_drew1) | exact HB.out)) hb); clear HB; have HB := n0_; clear n0_; (try clear hb); (try clear hb2); (try clear hk); (try clear hi)) | ((with_reducible refine gate_callee (f := 10) rfl ?_); refine goesL_ (some 105) rfl rfl Tryd.func10 (by kernel_rfl) rfl #[.string ((((⟨#[38, 35, 88]⟩ : ByteArray) ++ x9_3) ++ (⟨#[59]⟩ : ByteArray)) ++ a1)] rfl (by (try simp only [List.map_toArray, List.map_cons, List.map_nil]); first | done | rfl | (simp only [List.length_drop, List.length_take]; rfl)) ?_; (with_reducible refine (entity_Read.calls ((((⟨#[38, 35, 88]⟩ : ByteArray) ++ x9_3) ++ (⟨#[59]⟩ : ByteArray)) ++ a1) t147 t148 _ ?side1 A91.out).mono ?_); (case side1 => exact Laid.go hLd (by repeat (first | (with_reducible first | exact HB.out | apply below_alloc | apply pw_below_drewN | apply below_drew1) | exact HB.out))); rintro e w106 ⟨rfl, hb⟩; refine ⟨_, rfl, ?_⟩; have n0_ := Aside0.mk (below_step (by repeat (first | (with_reducible first | exact HB.out | apply below_alloc | apply pw_below_drewN | apply below_drew1) | exact HB.out)) hb); clear HB; have HB := n0_; clear n0_; (try clear hb); (try clear hb2); (try clear hk); (try clear hi)))
                                                          go_ret
                                                          exact ⟨by first | rfl | (simp [errW_none, errW_some] <;> rfl) | (simp [*, errW_none, errW_some] <;> rfl), by repeat (first | (with_reducible first | exact HB.out | apply below_alloc | apply pw_below_drewN | apply below_drew1) | exact HB.out)⟩
                                                      · rw [if_neg c95] at H
                                                        have c95b0 : (t147.toList == (Go.Utf8.encode (wrap32 ((Go.bits .and .i64 a0 16777215)))).toList) = false := beq_eq_false_iff_ne.mpr c95
                                                        have c95b1 : (t147.toList != (Go.Utf8.encode (wrap32 ((Go.bits .and .i64 a0 16777215)))).toList) = true := bne_iff_ne.mpr c95
                                                        obtain rfl := Option.some.inj H
                                                        go_wp2_with (first | ((with_reducible refine gate_callee (f := 10) rfl ?_); refine goesL_ (some 87) rfl rfl Tryd.func10 (by kernel_rfl) rfl #[.string ((((⟨#[38, 35]⟩ : ByteArray) ++ x7_2) ++ (⟨#[59]⟩ : ByteArray)) ++ a1)] rfl (by (try simp only [List.map_toArray, List.map_cons, List.map_nil]); first | done | rfl | (simp only [List.length_drop, List.length_take]; rfl)) ?_; (with_reducible refine (entity_Read.calls ((((⟨#[38, 35]⟩ : ByteArray) ++ x7_2) ++ (⟨#[59]⟩ : ByteArray)) ++ a1) t143 t144 _ ?side1 A83.out).mono ?_); (case side1 => exact Laid.go hLd (by repeat (first | (with_reducible first | exact HB.out | apply below_alloc | apply pw_below_drewN | apply below_drew1) | exact HB.out))); rintro e w107 ⟨rfl, hb⟩; refine ⟨_, rfl, ?_⟩; have n0_ := Aside0.mk (below_step (by repeat (first | (with_reducible first | exact HB.out | apply below_alloc | apply pw_below_drewN | apply below_drew1) | exact HB.out)) hb); clear HB; have HB := n0_; clear n0_; (try clear hb); (try clear hb2); (try clear hk); (try clear hi)) | ((with_reducible refine gate_callee (f := 10) rfl ?_); refine goesL_ (some 96) rfl rfl Tryd.func10 (by kernel_rfl) rfl #[.string ((((⟨#[38, 35, 120]⟩ : ByteArray) ++ x8_3) ++ (⟨#[59]⟩ : ByteArray)) ++ a1)] rfl (by (try simp only [List.map_toArray, List.map_cons, List.map_nil]); first | done | rfl | (simp only [List.length_drop, List.length_take]; rfl)) ?_; (with_reducible refine (entity_Read.calls ((((⟨#[38, 35, 120]⟩ : ByteArray) ++ x8_3) ++ (⟨#[59]⟩ : ByteArray)) ++ a1) t145 t146 _ ?side1 A87.out).mono ?_); (case side1 => exact Laid.go hLd (by repeat (first | (with_reducible first | exact HB.out | apply below_alloc | apply pw_below_drewN | apply below_drew1) | exact HB.out))); rintro e w108 ⟨rfl, hb⟩; refine ⟨_, rfl, ?_⟩; have n0_ := Aside0.mk (below_step (by repeat (first | (with_reducible first | exact HB.out | apply below_alloc | apply pw_below_drewN | apply below_drew1) | exact HB.out)) hb); clear HB; have HB := n0_; clear n0_; (try clear hb); (try clear hb2); (try clear hk); (try clear hi)) | ((with_reducible refine gate_callee (f := 10) rfl ?_); refine goesL_ (some 105) rfl rfl Tryd.func10 (by kernel_rfl) rfl #[.string ((((⟨#[38, 35, 88]⟩ : ByteArray) ++ x9_3) ++ (⟨#[59]⟩ : ByteArray)) ++ a1)] rfl (by (try simp only [List.map_toArray, List.map_cons, List.map_nil]); first | done | rfl | (simp only [List.length_drop, List.length_take]; rfl)) ?_; (with_reducible refine (entity_Read.calls ((((⟨#[38, 35, 88]⟩ : ByteArray) ++ x9_3) ++ (⟨#[59]⟩ : ByteArray)) ++ a1) t147 t148 _ ?side1 A91.out).mono ?_); (case side1 => exact Laid.go hLd (by repeat (first | (with_reducible first | exact HB.out | apply below_alloc | apply pw_below_drewN | apply below_drew1) | exact HB.out))); rintro e w109 ⟨rfl, hb⟩; refine ⟨_, rfl, ?_⟩; have n0_ := Aside0.mk (below_step (by repeat (first | (with_reducible first | exact HB.out | apply below_alloc | apply pw_below_drewN | apply below_drew1) | exact HB.out)) hb); clear HB; have HB := n0_; clear n0_; (try clear hb); (try clear hb2); (try clear hk); (try clear hi)))
                                                        go_ret
                                                        exact ⟨by first | rfl | (simp [errW_none, errW_some] <;> rfl) | (simp [*, errW_none, errW_some] <;> rfl), by repeat (first | (with_reducible first | exact HB.out | apply below_alloc | apply pw_below_drewN | apply below_drew1) | exact HB.out)⟩
                                                    · rw [if_neg c94] at H
                                                      have c94b0 : (t145.toList == (Go.Utf8.encode (wrap32 ((Go.bits .and .i64 a0 16777215)))).toList) = false := beq_eq_false_iff_ne.mpr c94
                                                      have c94b1 : (t145.toList != (Go.Utf8.encode (wrap32 ((Go.bits .and .i64 a0 16777215)))).toList) = true := bne_iff_ne.mpr c94
                                                      obtain rfl := Option.some.inj H
                                                      go_wp2_with (first | ((with_reducible refine gate_callee (f := 10) rfl ?_); refine goesL_ (some 87) rfl rfl Tryd.func10 (by kernel_rfl) rfl #[.string ((((⟨#[38, 35]⟩ : ByteArray) ++ x7_2) ++ (⟨#[59]⟩ : ByteArray)) ++ a1)] rfl (by (try simp only [List.map_toArray, List.map_cons, List.map_nil]); first | done | rfl | (simp only [List.length_drop, List.length_take]; rfl)) ?_; (with_reducible refine (entity_Read.calls ((((⟨#[38, 35]⟩ : ByteArray) ++ x7_2) ++ (⟨#[59]⟩ : ByteArray)) ++ a1) t143 t144 _ ?side1 A83.out).mono ?_); (case side1 => exact Laid.go hLd (by repeat (first | (with_reducible first | exact HB.out | apply below_alloc | apply pw_below_drewN | apply below_drew1) | exact HB.out))); rintro e w110 ⟨rfl, hb⟩; refine ⟨_, rfl, ?_⟩; have n0_ := Aside0.mk (below_step (by repeat (first | (with_reducible first | exact HB.out | apply below_alloc | apply pw_below_drewN | apply below_drew1) | exact HB.out)) hb); clear HB; have HB := n0_; clear n0_; (try clear hb); (try clear hb2); (try clear hk); (try clear hi)) | ((with_reducible refine gate_callee (f := 10) rfl ?_); refine goesL_ (some 96) rfl rfl Tryd.func10 (by kernel_rfl) rfl #[.string ((((⟨#[38, 35, 120]⟩ : ByteArray) ++ x8_3) ++ (⟨#[59]⟩ : ByteArray)) ++ a1)] rfl (by (try simp only [List.map_toArray, List.map_cons, List.map_nil]); first | done | rfl | (simp only [List.length_drop, List.length_take]; rfl)) ?_; (with_reducible refine (entity_Read.calls ((((⟨#[38, 35, 120]⟩ : ByteArray) ++ x8_3) ++ (⟨#[59]⟩ : ByteArray)) ++ a1) t145 t146 _ ?side1 A87.out).mono ?_); (case side1 => exact Laid.go hLd (by repeat (first | (with_reducible first | exact HB.out | apply below_alloc | apply pw_below_drewN | apply below_drew1) | exact HB.out))); rintro e w111 ⟨rfl, hb⟩; refine ⟨_, rfl, ?_⟩; have n0_ := Aside0.mk (below_step (by repeat (first | (with_reducible first | exact HB.out | apply below_alloc | apply pw_below_drewN | apply below_drew1) | exact HB.out)) hb); clear HB; have HB := n0_; clear n0_; (try clear hb); (try clear hb2); (try clear hk); (try clear hi)) | ((with_reducible refine gate_callee (f := 10) rfl ?_); refine goesL_ (some 105) rfl rfl Tryd.func10 (by kernel_rfl) rfl #[.string ((((⟨#[38, 35, 88]⟩ : ByteArray) ++ x9_3) ++ (⟨#[59]⟩ : ByteArray)) ++ a1)] rfl (by (try simp only [List.map_toArray, List.map_cons, List.map_nil]); first | done | rfl | (simp only [List.length_drop, List.length_take]; rfl)) ?_; (with_reducible refine (entity_Read.calls ((((⟨#[38, 35, 88]⟩ : ByteArray) ++ x9_3) ++ (⟨#[59]⟩ : ByteArray)) ++ a1) t147 t148 _ ?side1 A91.out).mono ?_); (case side1 => exact Laid.go hLd (by repeat (first | (with_reducible first | exact HB.out | apply below_alloc | apply pw_below_drewN | apply below_drew1) | exact HB.out))); rintro e w112 ⟨rfl, hb⟩; refine ⟨_, rfl, ?_⟩; have n0_ := Aside0.mk (below_step (by repeat (first | (with_reducible first | exact HB.out | apply below_alloc | apply pw_below_drewN | apply below_drew1) | exact HB.out)) hb); clear HB; have HB := n0_; clear n0_; (try clear hb); (try clear hb2); (try clear hk); (try clear hi)))
                                                      go_ret
                                                      exact ⟨by first | rfl | (simp [errW_none, errW_some] <;> rfl) | (simp [*, errW_none, errW_some] <;> rfl), by repeat (first | (with_reducible first | exact HB.out | apply below_alloc | apply pw_below_drewN | apply below_drew1) | exact HB.out)⟩
                                                  · rw [if_neg c93] at H
                                                    have c93b0 : (t143.toList == (Go.Utf8.encode (wrap32 ((Go.bits .and .i64 a0 16777215)))).toList) = false := beq_eq_false_iff_ne.mpr c93
                                                    have c93b1 : (t143.toList != (Go.Utf8.encode (wrap32 ((Go.bits .and .i64 a0 16777215)))).toList) = true := bne_iff_ne.mpr c93
                                                    obtain rfl := Option.some.inj H
                                                    go_wp2_with (first | ((with_reducible refine gate_callee (f := 10) rfl ?_); refine goesL_ (some 87) rfl rfl Tryd.func10 (by kernel_rfl) rfl #[.string ((((⟨#[38, 35]⟩ : ByteArray) ++ x7_2) ++ (⟨#[59]⟩ : ByteArray)) ++ a1)] rfl (by (try simp only [List.map_toArray, List.map_cons, List.map_nil]); first | done | rfl | (simp only [List.length_drop, List.length_take]; rfl)) ?_; (with_reducible refine (entity_Read.calls ((((⟨#[38, 35]⟩ : ByteArray) ++ x7_2) ++ (⟨#[59]⟩ : ByteArray)) ++ a1) t143 t144 _ ?side1 A83.out).mono ?_); (case side1 => exact Laid.go hLd (by repeat (first | (with_reducible first | exact HB.out | apply below_alloc | apply pw_below_drewN | apply below_drew1) | exact HB.out))); rintro e w113 ⟨rfl, hb⟩; refine ⟨_, rfl, ?_⟩; have n0_ := Aside0.mk (below_step (by repeat (first | (with_reducible first | exact HB.out | apply below_alloc | apply pw_below_drewN | apply below_drew1) | exact HB.out)) hb); clear HB; have HB := n0_; clear n0_; (try clear hb); (try clear hb2); (try clear hk); (try clear hi)) | ((with_reducible refine gate_callee (f := 10) rfl ?_); refine goesL_ (some 96) rfl rfl Tryd.func10 (by kernel_rfl) rfl #[.string ((((⟨#[38, 35, 120]⟩ : ByteArray) ++ x8_3) ++ (⟨#[59]⟩ : ByteArray)) ++ a1)] rfl (by (try simp only [List.map_toArray, List.map_cons, List.map_nil]); first | done | rfl | (simp only [List.length_drop, List.length_take]; rfl)) ?_; (with_reducible refine (entity_Read.calls ((((⟨#[38, 35, 120]⟩ : ByteArray) ++ x8_3) ++ (⟨#[59]⟩ : ByteArray)) ++ a1) t145 t146 _ ?side1 A87.out).mono ?_); (case side1 => exact Laid.go hLd (by repeat (first | (with_reducible first | exact HB.out | apply below_alloc | apply pw_below_drewN | apply below_drew1) | exact HB.out))); rintro e w114 ⟨rfl, hb⟩; refine ⟨_, rfl, ?_⟩; have n0_ := Aside0.mk (below_step (by repeat (first | (with_reducible first | exact HB.out | apply below_alloc | apply pw_below_drewN | apply below_drew1) | exact HB.out)) hb); clear HB; have HB := n0_; clear n0_; (try clear hb); (try clear hb2); (try clear hk); (try clear hi)) | ((with_reducible refine gate_callee (f := 10) rfl ?_); refine goesL_ (some 105) rfl rfl Tryd.func10 (by kernel_rfl) rfl #[.string ((((⟨#[38, 35, 88]⟩ : ByteArray) ++ x9_3) ++ (⟨#[59]⟩ : ByteArray)) ++ a1)] rfl (by (try simp only [List.map_toArray, List.map_cons, List.map_nil]); first | done | rfl | (simp only [List.length_drop, List.length_take]; rfl)) ?_; (with_reducible refine (entity_Read.calls ((((⟨#[38, 35, 88]⟩ : ByteArray) ++ x9_3) ++ (⟨#[59]⟩ : ByteArray)) ++ a1) t147 t148 _ ?side1 A91.out).mono ?_); (case side1 => exact Laid.go hLd (by repeat (first | (with_reducible first | exact HB.out | apply below_alloc | apply pw_below_drewN | apply below_drew1) | exact HB.out))); rintro e w115 ⟨rfl, hb⟩; refine ⟨_, rfl, ?_⟩; have n0_ := Aside0.mk (below_step (by repeat (first | (with_reducible first | exact HB.out | apply below_alloc | apply pw_below_drewN | apply below_drew1) | exact HB.out)) hb); clear HB; have HB := n0_; clear n0_; (try clear hb); (try clear hb2); (try clear hk); (try clear hi)))
                                                    go_ret
                                                    exact ⟨by first | rfl | (simp [errW_none, errW_some] <;> rfl) | (simp [*, errW_none, errW_some] <;> rfl), by repeat (first | (with_reducible first | exact HB.out | apply below_alloc | apply pw_below_drewN | apply below_drew1) | exact HB.out)⟩
                                                · replace c92 := Bool.eq_false_iff.mpr c92
                                                  subst c92
                                                  have H1 : (some false) = some r := by rw [if_neg (show ¬ (false = true) by decide)] at H; exact H
                                                  clear H
                                                  have H := H1
                                                  clear H1
                                                  obtain rfl := Option.some.inj H
                                                  go_wp2_with (first | ((with_reducible refine gate_callee (f := 10) rfl ?_); refine goesL_ (some 87) rfl rfl Tryd.func10 (by kernel_rfl) rfl #[.string ((((⟨#[38, 35]⟩ : ByteArray) ++ x7_2) ++ (⟨#[59]⟩ : ByteArray)) ++ a1)] rfl (by (try simp only [List.map_toArray, List.map_cons, List.map_nil]); first | done | rfl | (simp only [List.length_drop, List.length_take]; rfl)) ?_; (with_reducible refine (entity_Read.calls ((((⟨#[38, 35]⟩ : ByteArray) ++ x7_2) ++ (⟨#[59]⟩ : ByteArray)) ++ a1) t143 t144 _ ?side1 A83.out).mono ?_); (case side1 => exact Laid.go hLd (by repeat (first | (with_reducible first | exact HB.out | apply below_alloc | apply pw_below_drewN | apply below_drew1) | exact HB.out))); rintro e w116 ⟨rfl, hb⟩; refine ⟨_, rfl, ?_⟩; have n0_ := Aside0.mk (below_step (by repeat (first | (with_reducible first | exact HB.out | apply below_alloc | apply pw_below_drewN | apply below_drew1) | exact HB.out)) hb); clear HB; have HB := n0_; clear n0_; (try clear hb); (try clear hb2); (try clear hk); (try clear hi)) | ((with_reducible refine gate_callee (f := 10) rfl ?_); refine goesL_ (some 96) rfl rfl Tryd.func10 (by kernel_rfl) rfl #[.string ((((⟨#[38, 35, 120]⟩ : ByteArray) ++ x8_3) ++ (⟨#[59]⟩ : ByteArray)) ++ a1)] rfl (by (try simp only [List.map_toArray, List.map_cons, List.map_nil]); first | done | rfl | (simp only [List.length_drop, List.length_take]; rfl)) ?_; (with_reducible refine (entity_Read.calls ((((⟨#[38, 35, 120]⟩ : ByteArray) ++ x8_3) ++ (⟨#[59]⟩ : ByteArray)) ++ a1) t145 t146 _ ?side1 A87.out).mono ?_); (case side1 => exact Laid.go hLd (by repeat (first | (with_reducible first | exact HB.out | apply below_alloc | apply pw_below_drewN | apply below_drew1) | exact HB.out))); rintro e w117 ⟨rfl, hb⟩; refine ⟨_, rfl, ?_⟩; have n0_ := Aside0.mk (below_step (by repeat (first | (with_reducible first | exact HB.out | apply below_alloc | apply pw_below_drewN | apply below_drew1) | exact HB.out)) hb); clear HB; have HB := n0_; clear n0_; (try clear hb); (try clear hb2); (try clear hk); (try clear hi)) | ((with_reducible refine gate_callee (f := 10) rfl ?_); refine goesL_ (some 105) rfl rfl Tryd.func10 (by kernel_rfl) rfl #[.string ((((⟨#[38, 35, 88]⟩ : ByteArray) ++ x9_3) ++ (⟨#[59]⟩ : ByteArray)) ++ a1)] rfl (by (try simp only [List.map_toArray, List.map_cons, List.map_nil]); first | done | rfl | (simp only [List.length_drop, List.length_take]; rfl)) ?_; (with_reducible refine (entity_Read.calls ((((⟨#[38, 35, 88]⟩ : ByteArray) ++ x9_3) ++ (⟨#[59]⟩ : ByteArray)) ++ a1) t147 t148 _ ?side1 A91.out).mono ?_); (case side1 => exact Laid.go hLd (by repeat (first | (with_reducible first | exact HB.out | apply below_alloc | apply pw_below_drewN | apply below_drew1) | exact HB.out))); rintro e w118 ⟨rfl, hb⟩; refine ⟨_, rfl, ?_⟩; have n0_ := Aside0.mk (below_step (by repeat (first | (with_reducible first | exact HB.out | apply below_alloc | apply pw_below_drewN | apply below_drew1) | exact HB.out)) hb); clear HB; have HB := n0_; clear n0_; (try clear hb); (try clear hb2); (try clear hk); (try clear hi)))
                                                  go_ret
                                                  exact ⟨by first | rfl | (simp [errW_none, errW_some] <;> rfl) | (simp [*, errW_none, errW_some] <;> rfl), by repeat (first | (with_reducible first | exact HB.out | apply below_alloc | apply pw_below_drewN | apply below_drew1) | exact HB.out)⟩
                                              · rw [if_neg c90] at H
                                                exact absurd H (by simp)
                                            · rw [if_neg c89] at H
                                              exact absurd H (by simp)
                                          · rw [if_neg c88] at H
                                            exact absurd H (by simp)
                                        · rw [if_neg c86] at H
                                          exact absurd H (by simp)
                                      · rw [if_neg c85] at H
                                        exact absurd H (by simp)
                                    · rw [if_neg c84] at H
                                      exact absurd H (by simp)
                                  · rw [if_neg c82] at H
                                    exact absurd H (by simp)
                                · rw [if_neg c81] at H
                                  exact absurd H (by simp)
                              · rw [if_neg c80] at H
                                exact absurd H (by simp)

end Go.Proofs.YtmkoooldekbpaaaDoor.PA
