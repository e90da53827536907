/-
  Texts of the proof of RefsFinds, part 5 of 7: contracts and plain laws. Conditions: see each statement.
-/
import Derived.Test.YtekifcbokdidlaaGreatDoorSRefsFinds1
import Derived.Test.YtekifcbokdidlaaGreatDoorSRefsFinds2
import Derived.Test.YtekifcbokdidlaaGreatDoorSRefsFinds3
import Derived.Test.YtekifcbokdidlaaGreatDoorSRefsFinds4
import Derived.RangeFuncBox
import Derived.RangeFuncNested
import Derived.RangeFuncBound
import Derived.RangeFuncCalls
import Derived.RangeFuncLeaves
import Derived.Maps.AppendAt
import Derived.Shelf.Abstract
import Derived.Shelf.RegionOpen
import Derived.WalkKit
import Derived.OwnWalkIn
import Derived.TacticsInMore
import Derived.LoopNIn
import Derived.LoopIn
set_option linter.unusedVariables false
namespace Go.Proofs.YtekifcbokdidlaaGreatDoor.PA
open Go.RowKit Go.Proofs.YtekifcbokdidlaaGreatDoorW.PrintWords Go.Proofs.YtekifcbokdidlaaGreatDoorW.PrintLast Go.Proofs.YtekifcbokdidlaaGreatDoorW.PrintMore
attribute [local go_sem] max2_int min2_int max_two min_two max_three min_three max_four min_four   -- for this text's walks alone
set_option linter.unusedVariables false
set_option linter.unusedSimpArgs false






/-! ### link_White: function 47 -/
def link_White.f (a0 : ByteArray) : Option (Int) := (strings_TrimLeft.f a0 (⟨#[32, 9, 10]⟩ : ByteArray)).bind fun t101 => (some (wrap64 ((a0.size : Int) - (t101.size : Int))))
set_option maxHeartbeats 8000000 in
set_option maxRecDepth 100000 in
theorem link_White.calls (a0 : ByteArray) (r : Int) (w : World) (h : link_White.f a0 = some r) :
    Calls Tryz.prog 47 #[.string a0] w fun e w' => e = .returned (.int .i64 r) ∧ Below w.heap.size w w' := by
  have HB := Aside0.mk (Below.refl w.heap.size w)
  have H : ((strings_TrimLeft.f a0 (⟨#[32, 9, 10]⟩ : ByteArray)).bind fun t101 => (some (wrap64 ((a0.size : Int) - (t101.size : Int))))) = some r := h
  clear h
  replace H := Option.bind_eq_some_iff.mp H
  obtain ⟨t101, A20, H⟩ := H
  replace H : (some (wrap64 ((a0.size : Int) - (t101.size : Int)))) = some r := H
  have A2 := Aside0.mk A20
  clear A20
  obtain rfl := Option.some.inj H
  go_enter Tryz.func47, Tryz.ntmps47
  go_wp2_with (first | ((with_reducible refine gate_callee (f := 54) rfl ?_); refine goesL_ (some 6) rfl rfl Tryz.func54 (by kernel_rfl) rfl #[.string a0, .string (⟨#[32, 9, 10]⟩ : ByteArray)] rfl (by (try simp only [List.map_toArray, List.map_cons, List.map_nil]); first | done | rfl | (simp only [List.length_drop, List.length_take]; rfl)) ?_; (with_reducible refine (strings_TrimLeft.calls a0 (⟨#[32, 9, 10]⟩ : ByteArray) t101 _ A2.out).mono ?_); rintro e w3 ⟨rfl, hb⟩; refine ⟨_, rfl, ?_⟩; have n0_ := Aside0.mk (below_step (by repeat (first | (with_reducible first | exact HB.out | apply below_alloc | apply pw_below_drewN | apply below_drew1) | exact HB.out)) hb); clear HB; have HB := n0_; clear n0_; (try clear hb); (try clear hb2); (try clear hk); (try clear hi)))
  go_ret
  exact ⟨by first | rfl | exact retNe _ | (simp [errW_none, errW_some] <;> rfl) | (simp [*, errW_none, errW_some] <;> rfl), by repeat (first | (with_reducible first | exact HB.out | apply below_alloc | apply pw_below_drewN | apply below_drew1) | exact HB.out)⟩


end Go.Proofs.YtekifcbokdidlaaGreatDoor.PA
namespace Go.Proofs.YtekifcbokdidlaaGreatDoor.PA
open Go.RowKit Go.Proofs.YtekifcbokdidlaaGreatDoorW.PrintWords Go.Proofs.YtekifcbokdidlaaGreatDoorW.PrintLast Go.Proofs.YtekifcbokdidlaaGreatDoorW.PrintMore
attribute [local go_sem] max2_int min2_int max_two min_two max_three min_three max_four min_four   -- for this text's walks alone
set_option linter.unusedVariables false
set_option linter.unusedSimpArgs false






/-! ### refs_gap: function 28 -/
def refs_gap.f (a0 : ByteArray) : Option (Int × Bool) := (link_White.f a0).bind fun t102 => (if 0 ≤ t102 then (if t102 ≤ (a0.size : Int) then ((strings_Count.f (a0.extract 0 (t102 : Int).toNat) (⟨#[10]⟩ : ByteArray)).bind fun t103 => (some (t102, decide (t103 ≤ 1)))) else (none)) else (none))
set_option maxHeartbeats 8000000 in
set_option maxRecDepth 100000 in
theorem refs_gap.calls (a0 : ByteArray) (r1 : Int) (r2 : Bool) (w : World) (h : refs_gap.f a0 = some (r1, r2)) :
    Calls Tryz.prog 28 #[.string a0] w fun e w' => e = .returned (.tuple #[.int .i64 r1, .bool r2]) ∧ Below w.heap.size w w' := by
  have HB := Aside0.mk (Below.refl w.heap.size w)
  have H : ((link_White.f a0).bind fun t102 => (if 0 ≤ t102 then (if t102 ≤ (a0.size : Int) then ((strings_Count.f (a0.extract 0 (t102 : Int).toNat) (⟨#[10]⟩ : ByteArray)).bind fun t103 => (some (t102, decide (t103 ≤ 1)))) else (none)) else (none))) = some (r1, r2) := h
  clear h
  replace H := Option.bind_eq_some_iff.mp H
  obtain ⟨t102, A20, H⟩ := H
  replace H : (if 0 ≤ t102 then (if t102 ≤ (a0.size : Int) then ((strings_Count.f (a0.extract 0 (t102 : Int).toNat) (⟨#[10]⟩ : ByteArray)).bind fun t103 => (some (t102, decide (t103 ≤ 1)))) else (none)) else (none)) = some (r1, r2) := H
  have A2 := Aside0.mk A20
  clear A20
  by_cases c3 : 0 ≤ t102
  · rw [if_pos c3] at H
    have c3b0 := eq_true c3
    have c3b1 : decide (0 ≤ t102) = true := decide_eq_true c3
    clear c3
    by_cases c4 : t102 ≤ (a0.size : Int)
    · rw [if_pos c4] at H
      have c4b0 := eq_true c4
      have c4b1 : decide (t102 ≤ (a0.size : Int)) = true := decide_eq_true c4
      clear c4
      replace H := Option.bind_eq_some_iff.mp H
      obtain ⟨t103, A50, H⟩ := H
      replace H : (some (t102, decide (t103 ≤ 1))) = some (r1, r2) := H
      have A5 := Aside0.mk A50
      clear A50
      simp only [Option.some.injEq, Prod.mk.injEq] at H
      obtain ⟨rfl, rfl⟩ := H
      go_enter Tryz.func28, Tryz.ntmps28
      go_wp2_with (first | ((with_reducible refine gate_callee (f := 47) rfl ?_); refine goesL_ (some 6) rfl rfl Tryz.func47 (by kernel_rfl) rfl #[.string a0] rfl (by (try simp only [List.map_toArray, List.map_cons, List.map_nil]); first | done | rfl | (simp only [List.length_drop, List.length_take]; rfl)) ?_; (with_reducible refine (link_White.calls a0 t102 _ A2.out).mono ?_); rintro e w6 ⟨rfl, hb⟩; refine ⟨_, rfl, ?_⟩; have n0_ := Aside0.mk (below_step (by repeat (first | (with_reducible first | exact HB.out | apply below_alloc | apply pw_below_drewN | apply below_drew1) | exact HB.out)) hb); clear HB; have HB := n0_; clear n0_; (try clear hb); (try clear hb2); (try clear hk); (try clear hi)) | ((with_reducible refine gate_callee (f := 49) rfl ?_); refine goesL_ (some 11) rfl rfl Tryz.func49 (by kernel_rfl) rfl #[.string (a0.extract 0 (t102 : Int).toNat), .string (⟨#[10]⟩ : ByteArray)] rfl (by (try simp only [List.map_toArray, List.map_cons, List.map_nil]); first | done | rfl | (simp only [List.length_drop, List.length_take]; rfl)) ?_; (with_reducible refine (strings_Count.calls (a0.extract 0 (t102 : Int).toNat) (⟨#[10]⟩ : ByteArray) t103 _ A5.out).mono ?_); rintro e w' ⟨rfl, ⟨nd, rfl⟩⟩; refine ⟨_, rfl, ?_⟩))
      go_ret2
      exact ⟨by first | rfl | exact retNe _ | (simp [errW_none, errW_some] <;> rfl) | (simp [*, errW_none, errW_some] <;> rfl), by repeat (first | (with_reducible first | exact HB.out | apply below_alloc | apply pw_below_drewN | apply below_drew1) | exact HB.out)⟩
    · rw [if_neg c4] at H
      exact absurd H (by simp)
  · rw [if_neg c3] at H
    exact absurd H (by simp)


end Go.Proofs.YtekifcbokdidlaaGreatDoor.PA
namespace Go.Proofs.YtekifcbokdidlaaGreatDoor.PA
open Go.RowKit Go.Proofs.YtekifcbokdidlaaGreatDoorW.PrintWords Go.Proofs.YtekifcbokdidlaaGreatDoorW.PrintLast Go.Proofs.YtekifcbokdidlaaGreatDoorW.PrintMore
attribute [local go_sem] max2_int min2_int max_two min_two max_three min_three max_four min_four   -- for this text's walks alone
set_option linter.unusedVariables false
set_option linter.unusedSimpArgs false






/-! ### refs_end: function 31 -/
def refs_end.f (a0 : ByteArray) : Option (Int × Bool) := (strings_TrimLeft.f a0 (⟨#[32, 9]⟩ : ByteArray)).bind fun t104 => (if t104.toList = ([] : List UInt8) then (some (wrap64 ((a0.size : Int) - (t104.size : Int)), true)) else (if 0 < (t104.size : Int) then (if (bt t104 0) = 10 then (some (wrap64 ((wrap64 ((a0.size : Int) - (t104.size : Int))) + 1), true)) else (some (0, false))) else (none)))
set_option maxHeartbeats 8000000 in
set_option maxRecDepth 100000 in
theorem refs_end.calls (a0 : ByteArray) (r1 : Int) (r2 : Bool) (w : World) (h : refs_end.f a0 = some (r1, r2)) :
    Calls Tryz.prog 31 #[.string a0] w fun e w' => e = .returned (.tuple #[.int .i64 r1, .bool r2]) ∧ Below w.heap.size w w' := by
  have HB := Aside0.mk (Below.refl w.heap.size w)
  have H : ((strings_TrimLeft.f a0 (⟨#[32, 9]⟩ : ByteArray)).bind fun t104 => (if t104.toList = ([] : List UInt8) then (some (wrap64 ((a0.size : Int) - (t104.size : Int)), true)) else (if 0 < (t104.size : Int) then (if (bt t104 0) = 10 then (some (wrap64 ((wrap64 ((a0.size : Int) - (t104.size : Int))) + 1), true)) else (some (0, false))) else (none)))) = some (r1, r2) := h
  clear h
  replace H := Option.bind_eq_some_iff.mp H
  obtain ⟨t104, A20, H⟩ := H
  replace H : (if t104.toList = ([] : List UInt8) then (some (wrap64 ((a0.size : Int) - (t104.size : Int)), true)) else (if 0 < (t104.size : Int) then (if (bt t104 0) = 10 then (some (wrap64 ((wrap64 ((a0.size : Int) - (t104.size : Int))) + 1), true)) else (some (0, false))) else (none))) = some (r1, r2) := H
  have A2 := Aside0.mk A20
  clear A20
  by_cases c3 : t104.toList = ([] : List UInt8)
  · rw [if_pos c3] at H
    have c3b0 : (t104.toList == ([] : List UInt8)) = true := beq_iff_eq.mpr c3
    have c3b1 : (t104.toList != ([] : List UInt8)) = false := bne_eq_false_iff_eq.mpr c3
    clear c3
    simp only [Option.some.injEq, Prod.mk.injEq] at H
    obtain ⟨rfl, rfl⟩ := H
    go_enter Tryz.func31, Tryz.ntmps31
    go_wp2_with (first | ((with_reducible refine gate_callee (f := 54) rfl ?_); refine goesL_ (some 7) rfl rfl Tryz.func54 (by kernel_rfl) rfl #[.string a0, .string (⟨#[32, 9]⟩ : ByteArray)] rfl (by (try simp only [List.map_toArray, List.map_cons, List.map_nil]); first | done | rfl | (simp only [List.length_drop, List.length_take]; rfl)) ?_; (with_reducible refine (strings_TrimLeft.calls a0 (⟨#[32, 9]⟩ : ByteArray) t104 _ A2.out).mono ?_); rintro e w4 ⟨rfl, hb⟩; refine ⟨_, rfl, ?_⟩; have n0_ := Aside0.mk (below_step (by repeat (first | (with_reducible first | exact HB.out | apply below_alloc | apply pw_below_drewN | apply below_drew1) | exact HB.out)) hb); clear HB; have HB := n0_; clear n0_; (try clear hb); (try clear hb2); (try clear hk); (try clear hi)))
    go_ret2
    exact ⟨by first | rfl | exact retNe _ | (simp [errW_none, errW_some] <;> rfl) | (simp [*, errW_none, errW_some] <;> rfl), by repeat (first | (with_reducible first | exact HB.out | apply below_alloc | apply pw_below_drewN | apply below_drew1) | exact HB.out)⟩
  · rw [if_neg c3] at H
    have c3b0 : (t104.toList == ([] : List UInt8)) = false := beq_eq_false_iff_ne.mpr c3
    have c3b1 : (t104.toList != ([] : List UInt8)) = true := bne_iff_ne.mpr c3
    by_cases c5 : 0 < (t104.size : Int)
    · rw [if_pos c5] at H
      have c5b0 : decide (0 < (t104.size : Int)) = true := decide_eq_true c5
      have c5b1 : decide (0 < t104.size) = true := decide_eq_true (by omega)
      clear c5
      by_cases c7 : (bt t104 0) = 10
      · rw [if_pos c7] at H
        have c7b0 : ((bt t104 0) == 10) = true := beq_iff_eq.mpr c7
        have c7b1 : ((bt t104 0) != 10) = false := bne_eq_false_iff_eq.mpr c7
        clear c7
        simp only [Option.some.injEq, Prod.mk.injEq] at H
        obtain ⟨rfl, rfl⟩ := H
        go_enter Tryz.func31, Tryz.ntmps31
        go_wp2_with (first | ((with_reducible refine gate_callee (f := 54) rfl ?_); refine goesL_ (some 7) rfl rfl Tryz.func54 (by kernel_rfl) rfl #[.string a0, .string (⟨#[32, 9]⟩ : ByteArray)] rfl (by (try simp only [List.map_toArray, List.map_cons, List.map_nil]); first | done | rfl | (simp only [List.length_drop, List.length_take]; rfl)) ?_; (with_reducible refine (strings_TrimLeft.calls a0 (⟨#[32, 9]⟩ : ByteArray) t104 _ A2.out).mono ?_); rintro e w8 ⟨rfl, hb⟩; refine ⟨_, rfl, ?_⟩; have n0_ := Aside0.mk (below_step (by repeat (first | (with_reducible first | exact HB.out | apply below_alloc | apply pw_below_drewN | apply below_drew1) | exact HB.out)) hb); clear HB; have HB := n0_; clear n0_; (try clear hb); (try clear hb2); (try clear hk); (try clear hi); have p6 : 0 ≤ (0 : Int) := (by omega); have q6 : 0 < t104.size := (by have : (0 : Int) < (t104.size : Int) := of_decide_eq_true (by first | (with_reducible assumption) | assumption); omega); have hx6 : ∀ h : 0 < t104.size, ((t104[0]'h).toNat : Int) = bt t104 0 := bt_at t104 0; clear p6; have qi6 : (0 < (t104.size : Int)) = True := eq_true (of_decide_eq_true (by first | (with_reducible assumption) | assumption)); replace q6 := eq_true q6))
        go_ret2
        exact ⟨by first | rfl | exact retNe _ | (simp [errW_none, errW_some] <;> rfl) | (simp [*, errW_none, errW_some] <;> rfl), by repeat (first | (with_reducible first | exact HB.out | apply below_alloc | apply pw_below_drewN | apply below_drew1) | exact HB.out)⟩
      · rw [if_neg c7] at H
        have c7b0 : ((bt t104 0) == 10) = false := beq_eq_false_iff_ne.mpr c7
        have c7b1 : ((bt t104 0) != 10) = true := bne_iff_ne.mpr c7
        simp only [Option.some.injEq, Prod.mk.injEq] at H
        obtain ⟨rfl, rfl⟩ := H
        go_enter Tryz.func31, Tryz.ntmps31
        go_wp2_with (first | ((with_reducible refine gate_callee (f := 54) rfl ?_); refine goesL_ (some 7) rfl rfl Tryz.func54 (by kernel_rfl) rfl #[.string a0, .string (⟨#[32, 9]⟩ : ByteArray)] rfl (by (try simp only [List.map_toArray, List.map_cons, List.map_nil]); first | done | rfl | (simp only [List.length_drop, List.length_take]; rfl)) ?_; (with_reducible refine (strings_TrimLeft.calls a0 (⟨#[32, 9]⟩ : ByteArray) t104 _ A2.out).mono ?_); rintro e w9 ⟨rfl, hb⟩; refine ⟨_, rfl, ?_⟩; have n0_ := Aside0.mk (below_step (by repeat (first | (with_reducible first | exact HB.out | apply below_alloc | apply pw_below_drewN | apply below_drew1) | exact HB.out)) hb); clear HB; have HB := n0_; clear n0_; (try clear hb); (try clear hb2); (try clear hk); (try clear hi); have p6 : 0 ≤ (0 : Int) := (by omega); have q6 : 0 < t104.size := (by have : (0 : Int) < (t104.size : Int) := of_decide_eq_true (by first | (with_reducible assumption) | assumption); omega); have hx6 : ∀ h : 0 < t104.size, ((t104[0]'h).toNat : Int) = bt t104 0 := bt_at t104 0; clear p6; have qi6 : (0 < (t104.size : Int)) = True := eq_true (of_decide_eq_true (by first | (with_reducible assumption) | assumption)); replace q6 := eq_true q6))
        go_ret2
        exact ⟨by first | rfl | exact retNe _ | (simp [errW_none, errW_some] <;> rfl) | (simp [*, errW_none, errW_some] <;> rfl), by repeat (first | (with_reducible first | exact HB.out | apply below_alloc | apply pw_below_drewN | apply below_drew1) | exact HB.out)⟩
    · rw [if_neg c5] at H
      exact absurd H (by simp)


end Go.Proofs.YtekifcbokdidlaaGreatDoor.PA
namespace Go.Proofs.YtekifcbokdidlaaGreatDoor.PA
open Go.RowKit Go.Proofs.YtekifcbokdidlaaGreatDoorW.PrintWords Go.Proofs.YtekifcbokdidlaaGreatDoorW.PrintLast Go.Proofs.YtekifcbokdidlaaGreatDoorW.PrintMore
attribute [local go_sem] max2_int min2_int max_two min_two max_three min_three max_four min_four   -- for this text's walks alone
set_option linter.unusedVariables false
set_option linter.unusedSimpArgs false






/-! ### refs_titled: function 30 -/
def refs_titled.j0 : Nat → ByteArray → Int → Bool → Option (ByteArray × Int × Bool)
  | 0, _, _, _ => none
  | k + 1, x0, x5, x20 => if x20 = true then (some ((⟨#[]⟩ : ByteArray), 0, false)) else (if 0 ≤ x5 then (if x5 ≤ (x0.size : Int) then ((link_Title.f (x0.extract (x5 : Int).toNat x0.size)).bind fun bt107 => (if bt107.2 = 0 then (some ((⟨#[]⟩ : ByteArray), 0, false)) else (if 0 ≤ (wrap64 (x5 + bt107.2)) then (if (wrap64 (x5 + bt107.2)) ≤ (x0.size : Int) then ((refs_end.f (x0.extract ((wrap64 (x5 + bt107.2)) : Int).toNat x0.size)).bind fun bt109 => (some (bt107.1, wrap64 ((wrap64 (x5 + bt107.2)) + bt109.1), bt109.2))) else (none)) else (none)))) else (none)) else (none))
def refs_titled.f (k : Nat) (a0 : ByteArray) : Option (ByteArray × Int × Bool) := (refs_gap.f a0).bind fun bt105 => (if bt105.2 = true then (refs_titled.j0 k a0 bt105.1 (bt105.1 == 0)) else (refs_titled.j0 k a0 bt105.1 true))
theorem refs_titled.mono_l : ∀ k, (∀ y0 y1 y2, LeO (refs_titled.j0 k y0 y1 y2) (refs_titled.j0 (k + 1) y0 y1 y2))
  | 0 => fun _ _ _ r h => by simp [refs_titled.j0] at h
  | k + 1 => by
    have ih0 := refs_titled.mono_l k
    · intro y0 y1 y2
      unfold refs_titled.j0
      repeat' first
      | (with_reducible exact ih0 _ _ _)
      | (with_reducible exact LeO.refl _)
      | (with_reducible exact LeO.none _)
      | (with_reducible refine LeO.ite ?_ ?_)
      | (with_reducible refine LeO.bind ?_ (fun _ => ?_))
      | exact ih0 _ _ _
      | exact LeO.none _
      | refine LeO.ite ?_ ?_
      | refine LeO.bind ?_ (fun _ => ?_)
theorem refs_titled.mono : ∀ a0 k, LeO (refs_titled.f k a0) (refs_titled.f (k + 1) a0) := by
  intro a0 k
  have ih0 := refs_titled.mono_l k
  unfold refs_titled.f
  repeat' first
      | (with_reducible exact ih0 _ _ _)
      | (with_reducible exact LeO.refl _)
      | (with_reducible exact LeO.none _)
      | (with_reducible refine LeO.ite ?_ ?_)
      | (with_reducible refine LeO.bind ?_ (fun _ => ?_))
      | exact ih0 _ _ _
      | exact LeO.none _
      | refine LeO.ite ?_ ?_
      | refine LeO.bind ?_ (fun _ => ?_)
set_option maxHeartbeats 8000000 in
set_option maxRecDepth 100000 in
theorem refs_titled.calls (k : Nat) (a0 : ByteArray) (r1 : ByteArray) (r2 : Int) (r3 : Bool) (w : World) (hLd : Laid w) (h : refs_titled.f k a0 = some (r1, r2, r3)) :
    Calls Tryz.prog 30 #[.string a0] w fun e w' => e = .returned (.tuple #[.string r1, .int .i64 r2, .bool r3]) ∧ Below w.heap.size w w' := by
  have HB := Aside0.mk (Below.refl w.heap.size w)
  have H : ((refs_gap.f a0).bind fun bt105 => (if bt105.2 = true then (refs_titled.j0 k a0 bt105.1 (bt105.1 == 0)) else (refs_titled.j0 k a0 bt105.1 true))) = some (r1, r2, r3) := h
  clear h
  replace H := Option.bind_eq_some_iff.mp H
  obtain ⟨⟨t105, t106⟩, A20, H⟩ := H
  replace H : (if t106 = true then (refs_titled.j0 k a0 t105 (t105 == 0)) else (refs_titled.j0 k a0 t105 true)) = some (r1, r2, r3) := H
  have A2 := Aside0.mk A20
  clear A20
  have HC3 := Aside0.mk H
  clear H
  go_enter Tryz.func30, Tryz.ntmps30
  go_upto_region 2 with (first | ((with_reducible refine gate_callee (f := 28) rfl ?_); refine goesL_ (some 12) rfl rfl Tryz.func28 (by kernel_rfl) rfl #[.string a0] rfl (by (try simp only [List.map_toArray, List.map_cons, List.map_nil]); first | done | rfl | (simp only [List.length_drop, List.length_take]; rfl)) ?_; (with_reducible refine (refs_gap.calls a0 t105 t106 _ A2.out).mono ?_); rintro e w4 ⟨rfl, hb⟩; refine ⟨_, rfl, ?_⟩; have n0_ := Aside0.mk (below_step (by repeat (first | (with_reducible first | exact HB.out | apply below_alloc | apply pw_below_drewN | apply below_drew1) | exact HB.out)) hb); clear HB; have HB := n0_; clear n0_; (try clear hb); (try clear hb2); (try clear hk); (try clear hi)))
  (try simp only [Act.put, List.setIfInBounds_toArray, List.set_cons_zero, List.set_cons_succ])
  go_cut [20] (fun v20 wc => ∃ (kq : Nat) (x20_2 : Bool), v20 = .bool x20_2 ∧ Aside0 (refs_titled.j0 kq a0 t105 x20_2 = some (r1, r2, r3)) ∧ Aside0 (kq ≤ k) ∧ Aside0 (Below w.heap.size w wc))
  case first =>
    have H := HC3.out
    clear HC3
    by_cases c5 : t106 = true
    · subst c5
      have H1 : (refs_titled.j0 k a0 t105 (t105 == 0)) = some (r1, r2, r3) := by rw [if_pos rfl] at H; exact H
      clear H
      have H := H1
      clear H1
      have H' := Aside0.mk H
      clear H
      go_wp2
      go_meet
      case rel => exact ⟨_, ((t105 == 0)), (by first | rfl | (simp; done) | (simp [*]; done)), H', ⟨by first | omega | exact Nat.le_refl _⟩, ⟨by repeat (first | (with_reducible first | exact HB.out | apply below_alloc | apply pw_below_drewN | apply below_drew1) | exact HB.out)⟩⟩
    · replace c5 := Bool.eq_false_iff.mpr c5
      subst c5
      have H1 : (refs_titled.j0 k a0 t105 true) = some (r1, r2, r3) := by rw [if_neg (show ¬ (false = true) by decide)] at H; exact H
      clear H
      have H := H1
      clear H1
      have H' := Aside0.mk H
      clear H
      go_wp2
      go_meet
      case rel => exact ⟨_, (true), (by first | rfl | (simp; done) | (simp [*]; done)), H', ⟨by first | omega | exact Nat.le_refl _⟩, ⟨by repeat (first | (with_reducible first | exact HB.out | apply below_alloc | apply pw_below_drewN | apply below_drew1) | exact HB.out)⟩⟩
  case rest =>
    clear HC3
    try clear c2
    try clear p2
    try clear c3
    try clear c5
    obtain ⟨kq, x20_2, rfl, HA, HJ2, HB⟩ := hcut
    cases kq with
    | zero => exact absurd HA.out (by simp [refs_titled.j0])
    | succ kj2 =>
      have H := HA.out
      clear HA
      simp only [refs_titled.j0] at H
      by_cases c6 : x20_2 = true
      · subst c6
        have H1 : (some ((⟨#[]⟩ : ByteArray), 0, false)) = some (r1, r2, r3) := by rw [if_pos rfl] at H; exact H
        clear H
        have H := H1
        clear H1
        simp only [Option.some.injEq, Prod.mk.injEq] at H
        obtain ⟨rfl, rfl, rfl⟩ := H
        go_wp2
        go_ret3
        exact ⟨by first | rfl | exact retNe _ | (simp [errW_none, errW_some] <;> rfl) | (simp [*, errW_none, errW_some] <;> rfl), by repeat (first | (with_reducible first | exact HB.out | apply below_alloc | apply pw_below_drewN | apply below_drew1) | exact HB.out)⟩
      · replace c6 := Bool.eq_false_iff.mpr c6
        subst c6
        have H1 : (if 0 ≤ t105 then (if t105 ≤ (a0.size : Int) then ((link_Title.f (a0.extract (t105 : Int).toNat a0.size)).bind fun bt107 => (if bt107.2 = 0 then (some ((⟨#[]⟩ : ByteArray), 0, false)) else (if 0 ≤ (wrap64 (t105 + bt107.2)) then (if (wrap64 (t105 + bt107.2)) ≤ (a0.size : Int) then ((refs_end.f (a0.extract ((wrap64 (t105 + bt107.2)) : Int).toNat a0.size)).bind fun bt109 => (some (bt107.1, wrap64 ((wrap64 (t105 + bt107.2)) + bt109.1), bt109.2))) else (none)) else (none)))) else (none)) else (none)) = some (r1, r2, r3) := by rw [if_neg (show ¬ (false = true) by decide)] at H; exact H
        clear H
        have H := H1
        clear H1
        by_cases c7 : 0 ≤ t105
        · rw [if_pos c7] at H
          have c7b0 := eq_true c7
          have c7b1 : decide (0 ≤ t105) = true := decide_eq_true c7
          clear c7
          by_cases c8 : t105 ≤ (a0.size : Int)
          · rw [if_pos c8] at H
            have c8b0 := eq_true c8
            have c8b1 : decide (t105 ≤ (a0.size : Int)) = true := decide_eq_true c8
            clear c8
            replace H := Option.bind_eq_some_iff.mp H
            obtain ⟨⟨t107, t108⟩, A90, H⟩ := H
            replace H : (if t108 = 0 then (some ((⟨#[]⟩ : ByteArray), 0, false)) else (if 0 ≤ (wrap64 (t105 + t108)) then (if (wrap64 (t105 + t108)) ≤ (a0.size : Int) then ((refs_end.f (a0.extract ((wrap64 (t105 + t108)) : Int).toNat a0.size)).bind fun bt109 => (some (t107, wrap64 ((wrap64 (t105 + t108)) + bt109.1), bt109.2))) else (none)) else (none))) = some (r1, r2, r3) := H
            have A9 := Aside0.mk A90
            clear A90
            by_cases c10 : t108 = 0
            · rw [if_pos c10] at H
              have c10b0 : (t108 == 0) = true := beq_iff_eq.mpr c10
              have c10b1 : (t108 != 0) = false := bne_eq_false_iff_eq.mpr c10
              clear c10
              simp only [Option.some.injEq, Prod.mk.injEq] at H
              obtain ⟨rfl, rfl, rfl⟩ := H
              go_wp2_with (first | ((with_reducible refine gate_callee (f := 53) rfl ?_); refine goesL_ (some 25) rfl rfl Tryz.func53 (by kernel_rfl) rfl #[.string (a0.extract (t105 : Int).toNat a0.size)] rfl (by (try simp only [List.map_toArray, List.map_cons, List.map_nil]); first | done | rfl | (simp only [List.length_drop, List.length_take]; rfl)) ?_; (with_reducible refine (link_Title.calls (a0.extract (t105 : Int).toNat a0.size) t107 t108 _ ?side1 A9.out).mono ?_); (case side1 => exact Laid.go hLd (by repeat (first | (with_reducible first | exact HB.out | apply below_alloc | apply pw_below_drewN | apply below_drew1) | exact HB.out))); rintro e w11 ⟨rfl, hb⟩; refine ⟨_, rfl, ?_⟩; have n0_ := Aside0.mk (below_step (by repeat (first | (with_reducible first | exact HB.out | apply below_alloc | apply pw_below_drewN | apply below_drew1) | exact HB.out)) hb); clear HB; have HB := n0_; clear n0_; (try clear hb); (try clear hb2); (try clear hk); (try clear hi)))
              go_ret3
              exact ⟨by first | rfl | exact retNe _ | (simp [errW_none, errW_some] <;> rfl) | (simp [*, errW_none, errW_some] <;> rfl), by repeat (first | (with_reducible first | exact HB.out | apply below_alloc | apply pw_below_drewN | apply below_drew1) | exact HB.out)⟩
            · rw [if_neg c10] at H
              have c10b0 : (t108 == 0) = false := beq_eq_false_iff_ne.mpr c10
              have c10b1 : (t108 != 0) = true := bne_iff_ne.mpr c10
              obtain ⟨ji12, hji12⟩ : ∃ j_ : Int, (wrap64 (t105 + t108)) = j_ := ⟨_, rfl⟩
              replace H : (if 0 ≤ (ji12) then (if (ji12) ≤ (a0.size : Int) then ((refs_end.f (a0.extract ((ji12) : Int).toNat a0.size)).bind fun bt109 => (some (t107, wrap64 ((ji12) + bt109.1), bt109.2))) else (none)) else (none)) = some (r1, r2, r3) := by first | (rw [hji12] at H; exact H) | (simp only [hji12] at H ⊢; exact H)
              (try rw [hji12] at A9)
              have hji12w : (IntKind.i64.wrap (t105 + t108)) = ji12 := (i64_w _).trans hji12
              by_cases c13 : 0 ≤ (ji12)
              · rw [if_pos c13] at H
                have c13b0 := eq_true c13
                have c13b1 : decide (0 ≤ (ji12)) = true := decide_eq_true c13
                clear c13
                by_cases c14 : (ji12) ≤ (a0.size : Int)
                · rw [if_pos c14] at H
                  have c14b0 := eq_true c14
                  have c14b1 : decide ((ji12) ≤ (a0.size : Int)) = true := decide_eq_true c14
                  clear c14
                  replace H := Option.bind_eq_some_iff.mp H
                  obtain ⟨⟨t109, t110⟩, A150, H⟩ := H
                  replace H : (some (t107, wrap64 ((ji12) + t109), t110)) = some (r1, r2, r3) := H
                  have A15 := Aside0.mk A150
                  clear A150
                  simp only [Option.some.injEq, Prod.mk.injEq] at H
                  obtain ⟨rfl, rfl, rfl⟩ := H
                  go_wp2_with (first | ((with_reducible refine gate_callee (f := 53) rfl ?_); refine goesL_ (some 25) rfl rfl Tryz.func53 (by kernel_rfl) rfl #[.string (a0.extract (t105 : Int).toNat a0.size)] rfl (by (try simp only [List.map_toArray, List.map_cons, List.map_nil]); first | done | rfl | (simp only [List.length_drop, List.length_take]; rfl)) ?_; (with_reducible refine (link_Title.calls (a0.extract (t105 : Int).toNat a0.size) t107 t108 _ ?side1 A9.out).mono ?_); (case side1 => exact Laid.go hLd (by repeat (first | (with_reducible first | exact HB.out | apply below_alloc | apply pw_below_drewN | apply below_drew1) | exact HB.out))); rintro e w16 ⟨rfl, hb⟩; refine ⟨_, rfl, ?_⟩; have n0_ := Aside0.mk (below_step (by repeat (first | (with_reducible first | exact HB.out | apply below_alloc | apply pw_below_drewN | apply below_drew1) | exact HB.out)) hb); clear HB; have HB := n0_; clear n0_; (try clear hb); (try clear hb2); (try clear hk); (try clear hi)) | ((with_reducible refine gate_callee (f := 31) rfl ?_); refine goesL_ (some 36) rfl rfl Tryz.func31 (by kernel_rfl) rfl #[.string (a0.extract ((ji12) : Int).toNat a0.size)] rfl (by (try simp only [List.map_toArray, List.map_cons, List.map_nil]); first | done | (simp only [hji12]; rfl) | rfl | (simp only [List.length_drop, List.length_take]; rfl)) ?_; (with_reducible refine (refs_end.calls (a0.extract ((ji12) : Int).toNat a0.size) t109 t110 _ A15.out).mono ?_); rintro e w17 ⟨rfl, hb⟩; refine ⟨_, rfl, ?_⟩; have n0_ := Aside0.mk (below_step (by repeat (first | (with_reducible first | exact HB.out | apply below_alloc | apply pw_below_drewN | apply below_drew1) | exact HB.out)) hb); clear HB; have HB := n0_; clear n0_; (try clear hb); (try clear hb2); (try clear hk); (try clear hi)))
                  go_ret3
                  exact ⟨by first | rfl | exact retNe _ | (simp [errW_none, errW_some] <;> rfl) | (simp only [← hji12]; first | rfl | (simp [errW_none, errW_some] <;> rfl)) | (simp [*, errW_none, errW_some] <;> rfl), by repeat (first | (with_reducible first | exact HB.out | apply below_alloc | apply pw_below_drewN | apply below_drew1) | exact HB.out)⟩
                · rw [if_neg c14] at H
                  exact absurd H (by simp)
              · rw [if_neg c13] at H
                exact absurd H (by simp)
          · rw [if_neg c8] at H
            exact absurd H (by simp)
        · rw [if_neg c7] at H
          exact absurd H (by simp)

end Go.Proofs.YtekifcbokdidlaaGreatDoor.PA
namespace Go.Proofs.YtekifcbokdidlaaGreatDoor.PA
open Go.RowKit Go.Proofs.YtekifcbokdidlaaGreatDoorW.PrintWords Go.Proofs.YtekifcbokdidlaaGreatDoorW.PrintLast Go.Proofs.YtekifcbokdidlaaGreatDoorW.PrintMore
attribute [local go_sem] max2_int min2_int max_two min_two max_three min_three max_four min_four   -- for this text's walks alone
set_option linter.unusedVariables false
set_option linter.unusedSimpArgs false






/-! ### refs_Take: function 15 -/
def refs_Take.j0 : Nat → ByteArray → ByteArray → ByteArray → Int → Bool → Option (ByteArray × ByteArray × ByteArray × Int)
  | 0, _, _, _, _, _ => none
  | k + 1, x0, x4, x6, x8, x41 => if x41 = true then (some ((⟨#[]⟩ : ByteArray), (⟨#[]⟩ : ByteArray), (⟨#[]⟩ : ByteArray), 0)) else (if 0 ≤ x8 then (if x8 ≤ (x6.size : Int) then ((link_Dest.f (x6.extract (x8 : Int).toNat x6.size)).bind fun bt118 => (if bt118.2.2 = true then (if 0 ≤ (wrap64 (x8 + bt118.2.1)) then (if (wrap64 (x8 + bt118.2.1)) ≤ (x6.size : Int) then ((class_Label.f x4).bind fun t121 => ((refs_titled.f k (x6.extract ((wrap64 (x8 + bt118.2.1)) : Int).toNat x6.size)).bind fun bt123 => (if bt123.2.2 = true then (some (t121, bt118.1, bt123.1, wrap64 ((wrap64 ((x0.size : Int) - ((x6.extract ((wrap64 (x8 + bt118.2.1)) : Int).toNat x6.size).size : Int))) + bt123.2.1))) else ((refs_end.f (x6.extract ((wrap64 (x8 + bt118.2.1)) : Int).toNat x6.size)).bind fun bt126 => (if bt126.2 = true then (some (t121, bt118.1, (⟨#[]⟩ : ByteArray), wrap64 ((wrap64 ((x0.size : Int) - ((x6.extract ((wrap64 (x8 + bt118.2.1)) : Int).toNat x6.size).size : Int))) + bt126.1))) else (some ((⟨#[]⟩ : ByteArray), (⟨#[]⟩ : ByteArray), (⟨#[]⟩ : ByteArray), 0))))))) else (none)) else (none)) else (some ((⟨#[]⟩ : ByteArray), (⟨#[]⟩ : ByteArray), (⟨#[]⟩ : ByteArray), 0)))) else (none)) else (none))
def refs_Take.f (k : Nat) (a0 : ByteArray) : Option (ByteArray × ByteArray × ByteArray × Int) := (link_Label.f a0).bind fun bt112 => (if 0 ≤ bt112.2 then (if bt112.2 ≤ (a0.size : Int) then ((strings_CutPrefix.f (a0.extract (bt112.2 : Int).toNat a0.size) (⟨#[58]⟩ : ByteArray)).bind fun bt114 => ((refs_gap.f bt114.1).bind fun bt116 => (if bt112.2 = 0 then (refs_Take.j0 k a0 bt112.1 bt114.1 bt116.1 true) else (if bt114.2 = true then (refs_Take.j0 k a0 bt112.1 bt114.1 bt116.1 (!bt116.2)) else (refs_Take.j0 k a0 bt112.1 bt114.1 bt116.1 true))))) else (none)) else (none))
theorem refs_Take.mono_l : ∀ k, (∀ y0 y1 y2 y3 y4, LeO (refs_Take.j0 k y0 y1 y2 y3 y4) (refs_Take.j0 (k + 1) y0 y1 y2 y3 y4))
  | 0 => fun _ _ _ _ _ r h => by simp [refs_Take.j0] at h
  | k + 1 => by
    have ih0 := refs_Take.mono_l k
    · intro y0 y1 y2 y3 y4
      unfold refs_Take.j0
      repeat' first
      | (with_reducible exact ih0 _ _ _ _ _)
      | (with_reducible exact refs_titled.mono _ _)
      | (with_reducible exact LeO.refl _)
      | (with_reducible exact LeO.none _)
      | (with_reducible refine LeO.ite ?_ ?_)
      | (with_reducible refine LeO.bind ?_ (fun _ => ?_))
      | exact ih0 _ _ _ _ _
      | exact refs_titled.mono _ _
      | exact LeO.none _
      | refine LeO.ite ?_ ?_
      | refine LeO.bind ?_ (fun _ => ?_)
theorem refs_Take.mono : ∀ a0 k, LeO (refs_Take.f k a0) (refs_Take.f (k + 1) a0) := by
  intro a0 k
  have ih0 := refs_Take.mono_l k
  unfold refs_Take.f
  repeat' first
      | (with_reducible exact ih0 _ _ _ _ _)
      | (with_reducible exact refs_titled.mono _ _)
      | (with_reducible exact LeO.refl _)
      | (with_reducible exact LeO.none _)
      | (with_reducible refine LeO.ite ?_ ?_)
      | (with_reducible refine LeO.bind ?_ (fun _ => ?_))
      | exact ih0 _ _ _ _ _
      | exact refs_titled.mono _ _
      | exact LeO.none _
      | refine LeO.ite ?_ ?_
      | refine LeO.bind ?_ (fun _ => ?_)
set_option maxHeartbeats 8000000 in
set_option maxRecDepth 100000 in
theorem refs_Take.calls (k : Nat) (a0 : ByteArray) (r1 : ByteArray) (r2 : ByteArray) (r3 : ByteArray) (r4 : Int) (w : World) (hLd : Laid w) (h : refs_Take.f k a0 = some (r1, r2, r3, r4)) :
    Calls Tryz.prog 15 #[.string a0] w fun e w' => e = .returned (.tuple #[.agg #[.string r1, .string r2, .string r3], .int .i64 r4]) ∧ Below w.heap.size w w' := by
  have hu26 := Tryz.underlying26
  have HB := Aside0.mk (Below.refl w.heap.size w)
  have H : ((link_Label.f a0).bind fun bt112 => (if 0 ≤ bt112.2 then (if bt112.2 ≤ (a0.size : Int) then ((strings_CutPrefix.f (a0.extract (bt112.2 : Int).toNat a0.size) (⟨#[58]⟩ : ByteArray)).bind fun bt114 => ((refs_gap.f bt114.1).bind fun bt116 => (if bt112.2 = 0 then (refs_Take.j0 k a0 bt112.1 bt114.1 bt116.1 true) else (if bt114.2 = true then (refs_Take.j0 k a0 bt112.1 bt114.1 bt116.1 (!bt116.2)) else (refs_Take.j0 k a0 bt112.1 bt114.1 bt116.1 true))))) else (none)) else (none))) = some (r1, r2, r3, r4) := h
  clear h
  replace H := Option.bind_eq_some_iff.mp H
  obtain ⟨⟨t112, t113⟩, A20, H⟩ := H
  replace H : (if 0 ≤ t113 then (if t113 ≤ (a0.size : Int) then ((strings_CutPrefix.f (a0.extract (t113 : Int).toNat a0.size) (⟨#[58]⟩ : ByteArray)).bind fun bt114 => ((refs_gap.f bt114.1).bind fun bt116 => (if t113 = 0 then (refs_Take.j0 k a0 t112 bt114.1 bt116.1 true) else (if bt114.2 = true then (refs_Take.j0 k a0 t112 bt114.1 bt116.1 (!bt116.2)) else (refs_Take.j0 k a0 t112 bt114.1 bt116.1 true))))) else (none)) else (none)) = some (r1, r2, r3, r4) := H
  have A2 := Aside0.mk A20
  clear A20
  by_cases c3 : 0 ≤ t113
  · rw [if_pos c3] at H
    have c3b0 := eq_true c3
    have c3b1 : decide (0 ≤ t113) = true := decide_eq_true c3
    clear c3
    by_cases c4 : t113 ≤ (a0.size : Int)
    · rw [if_pos c4] at H
      have c4b0 := eq_true c4
      have c4b1 : decide (t113 ≤ (a0.size : Int)) = true := decide_eq_true c4
      clear c4
      replace H := Option.bind_eq_some_iff.mp H
      obtain ⟨⟨t114, t115⟩, A50, H⟩ := H
      replace H : ((refs_gap.f t114).bind fun bt116 => (if t113 = 0 then (refs_Take.j0 k a0 t112 t114 bt116.1 true) else (if t115 = true then (refs_Take.j0 k a0 t112 t114 bt116.1 (!bt116.2)) else (refs_Take.j0 k a0 t112 t114 bt116.1 true)))) = some (r1, r2, r3, r4) := H
      have A5 := Aside0.mk A50
      clear A50
      replace H := Option.bind_eq_some_iff.mp H
      obtain ⟨⟨t116, t117⟩, A60, H⟩ := H
      replace H : (if t113 = 0 then (refs_Take.j0 k a0 t112 t114 t116 true) else (if t115 = true then (refs_Take.j0 k a0 t112 t114 t116 (!t117)) else (refs_Take.j0 k a0 t112 t114 t116 true))) = some (r1, r2, r3, r4) := H
      have A6 := Aside0.mk A60
      clear A60
      have HC7 := Aside0.mk H
      clear H
      go_enter Tryz.func15, Tryz.ntmps15
      go_upto_region 4 with (first | ((with_reducible refine gate_dst (N := 2) rfl ?_); refine box_event ?hg (N := 2) ?hd (cs := #[.string (⟨#[]⟩ : ByteArray), .string (⟨#[]⟩ : ByteArray), .string (⟨#[]⟩ : ByteArray)]) (t := 26) ?hr ?_; (case hd => rfl); (case hg => rfl); (case hr => first | (go_simp; done) | (go_simp; rfl)); intro gb111 hg w8 hbox hb; have n0_ := Aside0.mk (below_step (by repeat (first | (with_reducible first | exact HB.out | apply below_alloc | apply pw_below_drewN | apply below_drew1) | exact HB.out)) hb); have n1_ := Aside0.mk (hbox); have n2_ := Aside0.mk ((by rw [hg]; exact (below_size (by repeat (first | (with_reducible first | exact HB.out | apply below_alloc | apply pw_below_drewN | apply below_drew1) | exact HB.out))) : w.heap.size ≤ gb111)); have n3_ := Aside0.mk ((by rw [hg]; exact (below_size (by repeat (first | (with_reducible first | exact HB.out | apply below_alloc | apply pw_below_drewN | apply below_drew1) | exact HB.out))) : w.heap.size ≤ gb111)); clear HB; have HB := n0_; have BK111 := n1_; have GW111 := n2_; have GE111 := n3_; clear n0_ n1_ n2_ n3_; clear hb hbox hg) | ((with_reducible refine gate_callee (f := 26) rfl ?_); refine goesL_ (some 17) rfl rfl Tryz.func26 (by kernel_rfl) rfl #[.string a0] rfl (by (try simp only [List.map_toArray, List.map_cons, List.map_nil]); first | done | rfl | (simp only [List.length_drop, List.length_take]; rfl)) ?_; (with_reducible refine (link_Label.calls a0 t112 t113 _ A2.out).mono ?_); rintro e w9 ⟨rfl, hb⟩; refine ⟨_, rfl, ?_⟩; have n0_ := Aside0.mk (blk_below (g := gb111) (o := .cells #[.string (⟨#[]⟩ : ByteArray), .string (⟨#[]⟩ : ByteArray), .string (⟨#[]⟩ : ByteArray)] 26 (0, 0)) (by (with_reducible repeat (first | refine blk_drewN ?_ _ | refine blk_drew ?_ | refine blk_alloc ?_ _)); exact BK111.out) hb); have n1_ := Aside0.mk (below_step (by repeat (first | (with_reducible first | exact HB.out | apply below_alloc | apply pw_below_drewN | apply below_drew1 | refine below_set ?_ GE111.out) | exact HB.out)) hb); clear BK111; clear HB; have BK111 := n0_; have HB := n1_; clear n0_ n1_; (try clear hb); (try clear hb2); (try clear hk); (try clear hi)) | ((with_reducible refine gate_callee (f := 27) rfl ?_); refine goesL_ (some 24) rfl rfl Tryz.func27 (by kernel_rfl) rfl #[.string (a0.extract (t113 : Int).toNat a0.size), .string (⟨#[58]⟩ : ByteArray)] rfl (by (try simp only [List.map_toArray, List.map_cons, List.map_nil]); first | done | rfl | (simp only [List.length_drop, List.length_take]; rfl)) ?_; (with_reducible refine (strings_CutPrefix.calls (a0.extract (t113 : Int).toNat a0.size) (⟨#[58]⟩ : ByteArray) t114 t115 _ A5.out).mono ?_); rintro e w' ⟨rfl, ⟨nd, rfl⟩⟩; refine ⟨_, rfl, ?_⟩) | ((with_reducible refine gate_callee (f := 28) rfl ?_); refine goesL_ (some 29) rfl rfl Tryz.func28 (by kernel_rfl) rfl #[.string t114] rfl (by (try simp only [List.map_toArray, List.map_cons, List.map_nil]); first | done | rfl | (simp only [List.length_drop, List.length_take]; rfl)) ?_; (with_reducible refine (refs_gap.calls t114 t116 t117 _ A6.out).mono ?_); rintro e w10 ⟨rfl, hb⟩; refine ⟨_, rfl, ?_⟩; have n0_ := Aside0.mk (blk_below (g := gb111) (o := .cells #[.string (⟨#[]⟩ : ByteArray), .string (⟨#[]⟩ : ByteArray), .string (⟨#[]⟩ : ByteArray)] 26 (0, 0)) (by (with_reducible repeat (first | refine blk_drewN ?_ _ | refine blk_drew ?_ | refine blk_alloc ?_ _)); exact BK111.out) hb); have n1_ := Aside0.mk (below_step (by repeat (first | (with_reducible first | exact HB.out | apply below_alloc | apply pw_below_drewN | apply below_drew1 | refine below_set ?_ GE111.out) | exact HB.out)) hb); clear BK111; clear HB; have BK111 := n0_; have HB := n1_; clear n0_ n1_; (try clear hb); (try clear hb2); (try clear hk); (try clear hi)))
      (try simp only [Act.put, List.setIfInBounds_toArray, List.set_cons_zero, List.set_cons_succ])
      go_cut [41] (fun v41 wc => ∃ (kq : Nat) (x41_6 : Bool), v41 = .bool x41_6 ∧ Aside0 (refs_Take.j0 kq a0 t112 t114 t116 x41_6 = some (r1, r2, r3, r4)) ∧ Aside0 (kq ≤ k) ∧ Aside0 (wc.heap[gb111]? = some (.cells #[.string (⟨#[]⟩ : ByteArray), .string (⟨#[]⟩ : ByteArray), .string (⟨#[]⟩ : ByteArray)] 26 (0, 0))) ∧ Aside0 (Below w.heap.size w wc))
      case first =>
        have H := HC7.out
        clear HC7
        by_cases c11 : t113 = 0
        · rw [if_pos c11] at H
          have c11b0 : (t113 == 0) = true := beq_iff_eq.mpr c11
          have c11b1 : (t113 != 0) = false := bne_eq_false_iff_eq.mpr c11
          clear c11
          (first | rw [c11b0] | (simp only [i64_w, i32_w]; rw [c11b0]) | skip)
          have H' := Aside0.mk H
          clear H
          go_wp2
          go_meet
          case rel => exact ⟨_, (true), (by first | rfl | (simp; done) | (simp [*]; done)), H', ⟨by first | omega | exact Nat.le_refl _⟩, ⟨by (with_reducible repeat (first | refine blk_drewN ?_ _ | refine blk_drew ?_ | refine blk_alloc ?_ _)); exact BK111.out⟩, ⟨by repeat (first | (with_reducible first | exact HB.out | apply below_alloc | apply pw_below_drewN | apply below_drew1 | refine below_set ?_ GE111.out) | exact HB.out)⟩⟩
        · rw [if_neg c11] at H
          have c11b0 : (t113 == 0) = false := beq_eq_false_iff_ne.mpr c11
          have c11b1 : (t113 != 0) = true := bne_iff_ne.mpr c11
          (first | rw [c11b0] | (simp only [i64_w, i32_w]; rw [c11b0]) | skip)
          by_cases c12 : t115 = true
          · subst c12
            have H1 : (refs_Take.j0 k a0 t112 t114 t116 (!t117)) = some (r1, r2, r3, r4) := by rw [if_pos rfl] at H; exact H
            clear H
            have H := H1
            clear H1
            have H' := Aside0.mk H
            clear H
            go_wp2
            go_meet
            case rel => exact ⟨_, (!t117), (by first | rfl | (simp; done) | (simp [*]; done)), H', ⟨by first | omega | exact Nat.le_refl _⟩, ⟨by (with_reducible repeat (first | refine blk_drewN ?_ _ | refine blk_drew ?_ | refine blk_alloc ?_ _)); exact BK111.out⟩, ⟨by repeat (first | (with_reducible first | exact HB.out | apply below_alloc | apply pw_below_drewN | apply below_drew1 | refine below_set ?_ GE111.out) | exact HB.out)⟩⟩
          · replace c12 := Bool.eq_false_iff.mpr c12
            subst c12
            have H1 : (refs_Take.j0 k a0 t112 t114 t116 true) = some (r1, r2, r3, r4) := by rw [if_neg (show ¬ (false = true) by decide)] at H; exact H
            clear H
            have H := H1
            clear H1
            have H' := Aside0.mk H
            clear H
            go_wp2
            go_meet
            case rel => exact ⟨_, (true), (by first | rfl | (simp; done) | (simp [*]; done)), H', ⟨by first | omega | exact Nat.le_refl _⟩, ⟨by (with_reducible repeat (first | refine blk_drewN ?_ _ | refine blk_drew ?_ | refine blk_alloc ?_ _)); exact BK111.out⟩, ⟨by repeat (first | (with_reducible first | exact HB.out | apply below_alloc | apply pw_below_drewN | apply below_drew1 | refine below_set ?_ GE111.out) | exact HB.out)⟩⟩
      case rest =>
        clear HC7
        try clear c1
        try clear c2
        try clear p2
        try clear c3
        try clear c3b0
        try clear c3b1
        try clear c4
        try clear c4b0
        try clear c4b1
        try clear c11
        try clear c11b0
        try clear c11b1
        try clear c12
        obtain ⟨kq, x41_6, rfl, HA, HJ6, BK111, HB⟩ := hcut
        cases kq with
        | zero => exact absurd HA.out (by simp [refs_Take.j0])
        | succ kj6 =>
          have H := HA.out
          clear HA
          simp only [refs_Take.j0] at H
          by_cases c13 : x41_6 = true
          · subst c13
            have H1 : (some ((⟨#[]⟩ : ByteArray), (⟨#[]⟩ : ByteArray), (⟨#[]⟩ : ByteArray), 0)) = some (r1, r2, r3, r4) := by rw [if_pos rfl] at H; exact H
            clear H
            have H := H1
            clear H1
            simp only [Option.some.injEq, Prod.mk.injEq] at H
            obtain ⟨rfl, rfl, rfl, rfl⟩ := H
            have hcz14_0 : wc.cell? ⟨gb111, 0, none⟩ = some (.string (⟨#[]⟩ : ByteArray)) := (blk_cell BK111.out 0).trans rfl
            have hcz14_1 : wc.cell? ⟨gb111, 1, none⟩ = some (.string (⟨#[]⟩ : ByteArray)) := (blk_cell BK111.out 1).trans rfl
            have hcz14_2 : wc.cell? ⟨gb111, 2, none⟩ = some (.string (⟨#[]⟩ : ByteArray)) := (blk_cell BK111.out 2).trans rfl
            have hfz14_0 := blk_frozen BK111.out 0
            have hfz14_1 := blk_frozen BK111.out 1
            have hfz14_2 := blk_frozen BK111.out 2
            go_wp2
            refine bodyPost_ret (results_ct rfl _ _ gb111 26 #[.string (⟨#[]⟩ : ByteArray), .string (⟨#[]⟩ : ByteArray), .string (⟨#[]⟩ : ByteArray)] (0, 0) _ rfl (by (with_reducible repeat (first | refine blk_drewN ?_ _ | refine blk_drew ?_ | refine blk_alloc ?_ _)); refine blk_put (cs := #[.string (⟨#[]⟩ : ByteArray), .string (⟨#[]⟩ : ByteArray), .string (⟨#[]⟩ : ByteArray)]) ?_ 2 _ rfl; (with_reducible repeat (first | refine blk_drewN ?_ _ | refine blk_drew ?_ | refine blk_alloc ?_ _)); refine blk_put (cs := #[.string (⟨#[]⟩ : ByteArray), .string (⟨#[]⟩ : ByteArray), .string (⟨#[]⟩ : ByteArray)]) ?_ 1 _ rfl; (with_reducible repeat (first | refine blk_drewN ?_ _ | refine blk_drew ?_ | refine blk_alloc ?_ _)); refine blk_put (cs := #[.string (⟨#[]⟩ : ByteArray), .string (⟨#[]⟩ : ByteArray), .string (⟨#[]⟩ : ByteArray)]) ?_ 0 _ rfl; (with_reducible repeat (first | refine blk_drewN ?_ _ | refine blk_drew ?_ | refine blk_alloc ?_ _)); exact BK111.out) Tryz.underlying26 rfl (by kernel_rfl)) rfl ?_
            exact ⟨by first | rfl | exact retNe _ | (simp [errW_none, errW_some] <;> rfl) | (simp [*, errW_none, errW_some] <;> rfl), by repeat (first | (with_reducible first | exact HB.out | apply below_alloc | apply pw_below_drewN | apply below_drew1 | refine below_set ?_ GE111.out) | exact HB.out)⟩
          · replace c13 := Bool.eq_false_iff.mpr c13
            subst c13
            have H1 : (if 0 ≤ t116 then (if t116 ≤ (t114.size : Int) then ((link_Dest.f (t114.extract (t116 : Int).toNat t114.size)).bind fun bt118 => (if bt118.2.2 = true then (if 0 ≤ (wrap64 (t116 + bt118.2.1)) then (if (wrap64 (t116 + bt118.2.1)) ≤ (t114.size : Int) then ((class_Label.f t112).bind fun t121 => ((refs_titled.f kj6 (t114.extract ((wrap64 (t116 + bt118.2.1)) : Int).toNat t114.size)).bind fun bt123 => (if bt123.2.2 = true then (some (t121, bt118.1, bt123.1, wrap64 ((wrap64 ((a0.size : Int) - ((t114.extract ((wrap64 (t116 + bt118.2.1)) : Int).toNat t114.size).size : Int))) + bt123.2.1))) else ((refs_end.f (t114.extract ((wrap64 (t116 + bt118.2.1)) : Int).toNat t114.size)).bind fun bt126 => (if bt126.2 = true then (some (t121, bt118.1, (⟨#[]⟩ : ByteArray), wrap64 ((wrap64 ((a0.size : Int) - ((t114.extract ((wrap64 (t116 + bt118.2.1)) : Int).toNat t114.size).size : Int))) + bt126.1))) else (some ((⟨#[]⟩ : ByteArray), (⟨#[]⟩ : ByteArray), (⟨#[]⟩ : ByteArray), 0))))))) else (none)) else (none)) else (some ((⟨#[]⟩ : ByteArray), (⟨#[]⟩ : ByteArray), (⟨#[]⟩ : ByteArray), 0)))) else (none)) else (none)) = some (r1, r2, r3, r4) := by rw [if_neg (show ¬ (false = true) by decide)] at H; exact H
            clear H
            have H := H1
            clear H1
            by_cases c15 : 0 ≤ t116
            · rw [if_pos c15] at H
              have c15b0 := eq_true c15
              have c15b1 : decide (0 ≤ t116) = true := decide_eq_true c15
              clear c15
              by_cases c16 : t116 ≤ (t114.size : Int)
              · rw [if_pos c16] at H
                have c16b0 := eq_true c16
                have c16b1 : decide (t116 ≤ (t114.size : Int)) = true := decide_eq_true c16
                clear c16
                replace H := Option.bind_eq_some_iff.mp H
                obtain ⟨⟨t118, t119, t120⟩, A170, H⟩ := H
                replace H : (if t120 = true then (if 0 ≤ (wrap64 (t116 + t119)) then (if (wrap64 (t116 + t119)) ≤ (t114.size : Int) then ((class_Label.f t112).bind fun t121 => ((refs_titled.f kj6 (t114.extract ((wrap64 (t116 + t119)) : Int).toNat t114.size)).bind fun bt123 => (if bt123.2.2 = true then (some (t121, t118, bt123.1, wrap64 ((wrap64 ((a0.size : Int) - ((t114.extract ((wrap64 (t116 + t119)) : Int).toNat t114.size).size : Int))) + bt123.2.1))) else ((refs_end.f (t114.extract ((wrap64 (t116 + t119)) : Int).toNat t114.size)).bind fun bt126 => (if bt126.2 = true then (some (t121, t118, (⟨#[]⟩ : ByteArray), wrap64 ((wrap64 ((a0.size : Int) - ((t114.extract ((wrap64 (t116 + t119)) : Int).toNat t114.size).size : Int))) + bt126.1))) else (some ((⟨#[]⟩ : ByteArray), (⟨#[]⟩ : ByteArray), (⟨#[]⟩ : ByteArray), 0))))))) else (none)) else (none)) else (some ((⟨#[]⟩ : ByteArray), (⟨#[]⟩ : ByteArray), (⟨#[]⟩ : ByteArray), 0))) = some (r1, r2, r3, r4) := H
                have A17 := Aside0.mk A170
                clear A170
                by_cases c18 : t120 = true
                · subst c18
                  have H1 : (if 0 ≤ (wrap64 (t116 + t119)) then (if (wrap64 (t116 + t119)) ≤ (t114.size : Int) then ((class_Label.f t112).bind fun t121 => ((refs_titled.f kj6 (t114.extract ((wrap64 (t116 + t119)) : Int).toNat t114.size)).bind fun bt123 => (if bt123.2.2 = true then (some (t121, t118, bt123.1, wrap64 ((wrap64 ((a0.size : Int) - ((t114.extract ((wrap64 (t116 + t119)) : Int).toNat t114.size).size : Int))) + bt123.2.1))) else ((refs_end.f (t114.extract ((wrap64 (t116 + t119)) : Int).toNat t114.size)).bind fun bt126 => (if bt126.2 = true then (some (t121, t118, (⟨#[]⟩ : ByteArray), wrap64 ((wrap64 ((a0.size : Int) - ((t114.extract ((wrap64 (t116 + t119)) : Int).toNat t114.size).size : Int))) + bt126.1))) else (some ((⟨#[]⟩ : ByteArray), (⟨#[]⟩ : ByteArray), (⟨#[]⟩ : ByteArray), 0))))))) else (none)) else (none)) = some (r1, r2, r3, r4) := by rw [if_pos rfl] at H; exact H
                  clear H
                  have H := H1
                  clear H1
                  obtain ⟨ji19, hji19⟩ : ∃ j_ : Int, (wrap64 (t116 + t119)) = j_ := ⟨_, rfl⟩
                  replace H : (if 0 ≤ (ji19) then (if (ji19) ≤ (t114.size : Int) then ((class_Label.f t112).bind fun t121 => ((refs_titled.f kj6 (t114.extract ((ji19) : Int).toNat t114.size)).bind fun bt123 => (if bt123.2.2 = true then (some (t121, t118, bt123.1, wrap64 ((wrap64 ((a0.size : Int) - ((t114.extract ((ji19) : Int).toNat t114.size).size : Int))) + bt123.2.1))) else ((refs_end.f (t114.extract ((ji19) : Int).toNat t114.size)).bind fun bt126 => (if bt126.2 = true then (some (t121, t118, (⟨#[]⟩ : ByteArray), wrap64 ((wrap64 ((a0.size : Int) - ((t114.extract ((ji19) : Int).toNat t114.size).size : Int))) + bt126.1))) else (some ((⟨#[]⟩ : ByteArray), (⟨#[]⟩ : ByteArray), (⟨#[]⟩ : ByteArray), 0))))))) else (none)) else (none)) = some (r1, r2, r3, r4) := by first | (rw [hji19] at H; exact H) | (simp only [hji19] at H ⊢; exact H)
                  (try rw [hji19] at A17)
                  have hji19w : (IntKind.i64.wrap (t116 + t119)) = ji19 := (i64_w _).trans hji19
                  by_cases c20 : 0 ≤ (ji19)
                  · rw [if_pos c20] at H
                    have c20b0 := eq_true c20
                    have c20b1 : decide (0 ≤ (ji19)) = true := decide_eq_true c20
                    clear c20
                    by_cases c21 : (ji19) ≤ (t114.size : Int)
                    · rw [if_pos c21] at H
                      have c21b0 := eq_true c21
                      have c21b1 : decide ((ji19) ≤ (t114.size : Int)) = true := decide_eq_true c21
                      clear c21
                      replace H := Option.bind_eq_some_iff.mp H
                      obtain ⟨t121, A220, H⟩ := H
                      replace H : ((refs_titled.f kj6 (t114.extract ((ji19) : Int).toNat t114.size)).bind fun bt123 => (if bt123.2.2 = true then (some (t121, t118, bt123.1, wrap64 ((wrap64 ((a0.size : Int) - ((t114.extract ((ji19) : Int).toNat t114.size).size : Int))) + bt123.2.1))) else ((refs_end.f (t114.extract ((ji19) : Int).toNat t114.size)).bind fun bt126 => (if bt126.2 = true then (some (t121, t118, (⟨#[]⟩ : ByteArray), wrap64 ((wrap64 ((a0.size : Int) - ((t114.extract ((ji19) : Int).toNat t114.size).size : Int))) + bt126.1))) else (some ((⟨#[]⟩ : ByteArray), (⟨#[]⟩ : ByteArray), (⟨#[]⟩ : ByteArray), 0)))))) = some (r1, r2, r3, r4) := H
                      have A22 := Aside0.mk A220
                      clear A220
                      replace H := Option.bind_eq_some_iff.mp H
                      obtain ⟨⟨t123, t124, t125⟩, A230, H⟩ := H
                      replace H : (if t125 = true then (some (t121, t118, t123, wrap64 ((wrap64 ((a0.size : Int) - ((t114.extract ((ji19) : Int).toNat t114.size).size : Int))) + t124))) else ((refs_end.f (t114.extract ((ji19) : Int).toNat t114.size)).bind fun bt126 => (if bt126.2 = true then (some (t121, t118, (⟨#[]⟩ : ByteArray), wrap64 ((wrap64 ((a0.size : Int) - ((t114.extract ((ji19) : Int).toNat t114.size).size : Int))) + bt126.1))) else (some ((⟨#[]⟩ : ByteArray), (⟨#[]⟩ : ByteArray), (⟨#[]⟩ : ByteArray), 0))))) = some (r1, r2, r3, r4) := H
                      have A23 := Aside0.mk A230
                      clear A230
                      by_cases c24 : t125 = true
                      · subst c24
                        have H1 : (some (t121, t118, t123, wrap64 ((wrap64 ((a0.size : Int) - ((t114.extract ((ji19) : Int).toNat t114.size).size : Int))) + t124))) = some (r1, r2, r3, r4) := by rw [if_pos rfl] at H; exact H
                        clear H
                        have H := H1
                        clear H1
                        simp only [Option.some.injEq, Prod.mk.injEq] at H
                        obtain ⟨rfl, rfl, rfl, rfl⟩ := H
                        go_wp2_with (first | ((with_reducible refine gate_callee (f := 29) rfl ?_); refine goesL_ (some 47) rfl rfl Tryz.func29 (by kernel_rfl) rfl #[.string (t114.extract (t116 : Int).toNat t114.size)] rfl (by (try simp only [List.map_toArray, List.map_cons, List.map_nil]); first | done | rfl | (simp only [List.length_drop, List.length_take]; rfl)) ?_; (with_reducible refine (link_Dest.calls (t114.extract (t116 : Int).toNat t114.size) t118 t119 true _ ?side1 A17.out).mono ?_); (case side1 => exact Laid.go hLd (by repeat (first | (with_reducible first | exact HB.out | apply below_alloc | apply pw_below_drewN | apply below_drew1 | refine below_set ?_ GE111.out) | exact HB.out))); rintro e w25 ⟨rfl, hb⟩; refine ⟨_, rfl, ?_⟩; have n0_ := Aside0.mk (blk_below (g := gb111) (o := .cells #[.string (⟨#[]⟩ : ByteArray), .string (⟨#[]⟩ : ByteArray), .string (⟨#[]⟩ : ByteArray)] 26 (0, 0)) (by (with_reducible repeat (first | refine blk_drewN ?_ _ | refine blk_drew ?_ | refine blk_alloc ?_ _)); exact BK111.out) hb); have n1_ := Aside0.mk (below_step (by repeat (first | (with_reducible first | exact HB.out | apply below_alloc | apply pw_below_drewN | apply below_drew1 | refine below_set ?_ GE111.out) | exact HB.out)) hb); clear BK111; clear HB; have BK111 := n0_; have HB := n1_; clear n0_ n1_; (try clear hb); (try clear hb2); (try clear hk); (try clear hi)) | ((with_reducible refine gate_callee (f := 19) rfl ?_); refine goesL_ (some 60) rfl rfl Tryz.func19 (by kernel_rfl) rfl #[.string t112] rfl (by (try simp only [List.map_toArray, List.map_cons, List.map_nil]); first | done | rfl | (simp only [List.length_drop, List.length_take]; rfl)) ?_; (with_reducible refine (class_Label.calls t112 t121 _ ?side1 A22.out).mono ?_); (case side1 => exact Laid.go hLd (by repeat (first | (with_reducible first | exact HB.out | apply below_alloc | apply pw_below_drewN | apply below_drew1 | refine below_set ?_ GE111.out) | exact HB.out))); rintro e w26 ⟨rfl, hb⟩; refine ⟨_, rfl, ?_⟩; have n0_ := Aside0.mk (blk_below (g := gb111) (o := .cells #[.string (⟨#[]⟩ : ByteArray), .string (⟨#[]⟩ : ByteArray), .string (⟨#[]⟩ : ByteArray)] 26 (0, 0)) (by (with_reducible repeat (first | refine blk_drewN ?_ _ | refine blk_drew ?_ | refine blk_alloc ?_ _)); exact BK111.out) hb); have n1_ := Aside0.mk (below_step (by repeat (first | (with_reducible first | exact HB.out | apply below_alloc | apply pw_below_drewN | apply below_drew1 | refine below_set ?_ GE111.out) | exact HB.out)) hb); clear BK111; clear HB; have BK111 := n0_; have HB := n1_; clear n0_ n1_; (try clear hb); (try clear hb2); (try clear hk); (try clear hi)) | ((with_reducible refine gate_dst (N := 12) rfl ?_); refine box_event ?hg (N := 12) ?hd (cs := #[.string (⟨#[]⟩ : ByteArray), .string (⟨#[]⟩ : ByteArray), .string (⟨#[]⟩ : ByteArray)]) (t := 26) ?hr ?_; (case hd => rfl); (case hg => rfl); (case hr => first | (go_simp; done) | (go_simp; rfl)); intro gb122 hg w27 hbox hb; have n0_ := Aside0.mk (blk_below (g := gb111) (o := .cells #[.string (⟨#[]⟩ : ByteArray), .string (⟨#[]⟩ : ByteArray), .string (⟨#[]⟩ : ByteArray)] 26 (0, 0)) (by (with_reducible repeat (first | refine blk_drewN ?_ _ | refine blk_drew ?_ | refine blk_alloc ?_ _)); exact BK111.out) hb); have n1_ := Aside0.mk (below_step (by repeat (first | (with_reducible first | exact HB.out | apply below_alloc | apply pw_below_drewN | apply below_drew1 | refine below_set ?_ GE111.out) | exact HB.out)) hb); have n2_ := Aside0.mk (hbox); have n3_ := Aside0.mk ((by rw [hg]; exact (below_size (by repeat (first | (with_reducible first | exact HB.out | apply below_alloc | apply pw_below_drewN | apply below_drew1 | refine below_set ?_ GE111.out) | exact HB.out))) : w.heap.size ≤ gb122)); have n4_ := Aside0.mk ((by rw [hg]; exact (below_size (by repeat (first | (with_reducible first | exact HB.out | apply below_alloc | apply pw_below_drewN | apply below_drew1 | refine below_set ?_ GE111.out) | exact HB.out))) : w.heap.size ≤ gb122)); have n5_ := Aside0.mk ((by rw [hg]; exact Nat.ne_of_lt (blk_lt (g := gb111) (o := .cells #[.string (⟨#[]⟩ : ByteArray), .string (⟨#[]⟩ : ByteArray), .string (⟨#[]⟩ : ByteArray)] 26 (0, 0)) (by (with_reducible repeat (first | refine blk_drewN ?_ _ | refine blk_drew ?_ | refine blk_alloc ?_ _)); exact BK111.out)) : gb111 ≠ gb122)); have n6_ := Aside0.mk ((by rw [hg]; exact Nat.ne_of_gt (blk_lt (g := gb111) (o := .cells #[.string (⟨#[]⟩ : ByteArray), .string (⟨#[]⟩ : ByteArray), .string (⟨#[]⟩ : ByteArray)] 26 (0, 0)) (by (with_reducible repeat (first | refine blk_drewN ?_ _ | refine blk_drew ?_ | refine blk_alloc ?_ _)); exact BK111.out)) : gb122 ≠ gb111)); clear BK111; clear HB; have BK111 := n0_; have HB := n1_; have BK122 := n2_; have GW122 := n3_; have GE122 := n4_; have NB111_122 := n5_; have NB122_111 := n6_; clear n0_ n1_ n2_ n3_ n4_ n5_ n6_; clear hb hbox hg; have hnb28 := NB122_111.out; have hnc28 := NB111_122.out; have hcz29_0 : w27.cell? ⟨gb122, 0, none⟩ = some (.string (⟨#[]⟩ : ByteArray)) := (blk_cell BK122.out 0).trans rfl; have hcz29_1 : w27.cell? ⟨gb122, 1, none⟩ = some (.string (⟨#[]⟩ : ByteArray)) := (blk_cell BK122.out 1).trans rfl; have hcz29_2 : w27.cell? ⟨gb122, 2, none⟩ = some (.string (⟨#[]⟩ : ByteArray)) := (blk_cell BK122.out 2).trans rfl; have hfz29_0 := blk_frozen BK122.out 0; have hfz29_1 := blk_frozen BK122.out 1; have hfz29_2 := blk_frozen BK122.out 2) | ((with_reducible refine gate_callee (f := 30) rfl ?_); refine goesL_ (some 65) rfl rfl Tryz.func30 (by kernel_rfl) rfl #[.string (t114.extract ((ji19) : Int).toNat t114.size)] rfl (by (try simp only [List.map_toArray, List.map_cons, List.map_nil]); first | done | (simp only [hji19]; rfl) | rfl | (simp only [List.length_drop, List.length_take]; rfl)) ?_; (with_reducible refine (refs_titled.calls kj6 (t114.extract ((ji19) : Int).toNat t114.size) t123 t124 true _ ?side1 A23.out).mono ?_); (case side1 => exact Laid.go hLd (by repeat (first | (with_reducible first | exact HB.out | apply below_alloc | apply pw_below_drewN | apply below_drew1 | refine below_set ?_ GE111.out | refine below_set ?_ GE122.out) | exact HB.out))); rintro e w30 ⟨rfl, hb⟩; refine ⟨_, rfl, ?_⟩; have n0_ := Aside0.mk (blk_below (g := gb111) (o := .cells #[.string (⟨#[]⟩ : ByteArray), .string (⟨#[]⟩ : ByteArray), .string (⟨#[]⟩ : ByteArray)] 26 (0, 0)) (by (with_reducible repeat (first | refine blk_drewN ?_ _ | refine blk_drew ?_ | refine blk_alloc ?_ _)); refine blk_far ?_ NB111_122.out _; (with_reducible repeat (first | refine blk_drewN ?_ _ | refine blk_drew ?_ | refine blk_alloc ?_ _)); refine blk_far ?_ NB111_122.out _; (with_reducible repeat (first | refine blk_drewN ?_ _ | refine blk_drew ?_ | refine blk_alloc ?_ _)); refine blk_far ?_ NB111_122.out _; (with_reducible repeat (first | refine blk_drewN ?_ _ | refine blk_drew ?_ | refine blk_alloc ?_ _)); exact BK111.out) hb); have n1_ := Aside0.mk (blk_below (g := gb122) (o := .cells #[.string t121, .string t118, .string (⟨#[]⟩ : ByteArray)] 26 (0, 0)) (by (with_reducible repeat (first | refine blk_drewN ?_ _ | refine blk_drew ?_ | refine blk_alloc ?_ _)); refine blk_put (cs := #[.string t121, .string t118, .string (⟨#[]⟩ : ByteArray)]) ?_ 2 _ rfl; (with_reducible repeat (first | refine blk_drewN ?_ _ | refine blk_drew ?_ | refine blk_alloc ?_ _)); refine blk_put (cs := #[.string t121, .string (⟨#[]⟩ : ByteArray), .string (⟨#[]⟩ : ByteArray)]) ?_ 1 _ rfl; (with_reducible repeat (first | refine blk_drewN ?_ _ | refine blk_drew ?_ | refine blk_alloc ?_ _)); refine blk_put (cs := #[.string (⟨#[]⟩ : ByteArray), .string (⟨#[]⟩ : ByteArray), .string (⟨#[]⟩ : ByteArray)]) ?_ 0 _ rfl; (with_reducible repeat (first | refine blk_drewN ?_ _ | refine blk_drew ?_ | refine blk_alloc ?_ _)); exact BK122.out) hb); have n2_ := Aside0.mk (below_step (by repeat (first | (with_reducible first | exact HB.out | apply below_alloc | apply pw_below_drewN | apply below_drew1 | refine below_set ?_ GE111.out | refine below_set ?_ GE122.out) | exact HB.out)) hb); clear BK111; clear BK122; clear HB; have BK111 := n0_; have BK122 := n1_; have HB := n2_; clear n0_ n1_ n2_; (try clear hb); (try clear hb2); (try clear hk); (try clear hi); have hcz31_0 : w30.cell? ⟨gb122, 0, none⟩ = some (.string t121) := (blk_cell BK122.out 0).trans rfl; have hcz31_1 : w30.cell? ⟨gb122, 1, none⟩ = some (.string t118) := (blk_cell BK122.out 1).trans rfl; have hcz31_2 : w30.cell? ⟨gb122, 2, none⟩ = some (.string (⟨#[]⟩ : ByteArray)) := (blk_cell BK122.out 2).trans rfl; have hfz31_0 := blk_frozen BK122.out 0; have hfz31_1 := blk_frozen BK122.out 1; have hfz31_2 := blk_frozen BK122.out 2; have hcz32_0 : w30.cell? ⟨gb111, 0, none⟩ = some (.string (⟨#[]⟩ : ByteArray)) := (blk_cell BK111.out 0).trans rfl; have hcz32_1 : w30.cell? ⟨gb111, 1, none⟩ = some (.string (⟨#[]⟩ : ByteArray)) := (blk_cell BK111.out 1).trans rfl; have hcz32_2 : w30.cell? ⟨gb111, 2, none⟩ = some (.string (⟨#[]⟩ : ByteArray)) := (blk_cell BK111.out 2).trans rfl; have hfz32_0 := blk_frozen BK111.out 0; have hfz32_1 := blk_frozen BK111.out 1; have hfz32_2 := blk_frozen BK111.out 2))
                        refine bodyPost_ret (results_ct rfl _ _ gb111 26 #[.string t121, .string t118, .string t123] (0, 0) _ rfl (by (with_reducible repeat (first | refine blk_drewN ?_ _ | refine blk_drew ?_ | refine blk_alloc ?_ _)); refine blk_put (cs := #[.string t121, .string t118, .string (⟨#[]⟩ : ByteArray)]) ?_ 2 _ rfl; (with_reducible repeat (first | refine blk_drewN ?_ _ | refine blk_drew ?_ | refine blk_alloc ?_ _)); refine blk_put (cs := #[.string t121, .string (⟨#[]⟩ : ByteArray), .string (⟨#[]⟩ : ByteArray)]) ?_ 1 _ rfl; (with_reducible repeat (first | refine blk_drewN ?_ _ | refine blk_drew ?_ | refine blk_alloc ?_ _)); refine blk_put (cs := #[.string (⟨#[]⟩ : ByteArray), .string (⟨#[]⟩ : ByteArray), .string (⟨#[]⟩ : ByteArray)]) ?_ 0 _ rfl; (with_reducible repeat (first | refine blk_drewN ?_ _ | refine blk_drew ?_ | refine blk_alloc ?_ _)); refine blk_far ?_ NB111_122.out _; (with_reducible repeat (first | refine blk_drewN ?_ _ | refine blk_drew ?_ | refine blk_alloc ?_ _)); exact BK111.out) Tryz.underlying26 rfl (by kernel_rfl)) rfl ?_
                        exact ⟨by first | rfl | exact retNe _ | (simp [errW_none, errW_some] <;> rfl) | (simp only [← hji19]; first | rfl | (simp [errW_none, errW_some] <;> rfl)) | (simp [*, errW_none, errW_some] <;> rfl), by repeat (first | (with_reducible first | exact HB.out | apply below_alloc | apply pw_below_drewN | apply below_drew1 | refine below_set ?_ GE111.out | refine below_set ?_ GE122.out) | exact HB.out)⟩
                      · replace c24 := Bool.eq_false_iff.mpr c24
                        subst c24
                        have H1 : ((refs_end.f (t114.extract ((ji19) : Int).toNat t114.size)).bind fun bt126 => (if bt126.2 = true then (some (t121, t118, (⟨#[]⟩ : ByteArray), wrap64 ((wrap64 ((a0.size : Int) - ((t114.extract ((ji19) : Int).toNat t114.size).size : Int))) + bt126.1))) else (some ((⟨#[]⟩ : ByteArray), (⟨#[]⟩ : ByteArray), (⟨#[]⟩ : ByteArray), 0)))) = some (r1, r2, r3, r4) := by rw [if_neg (show ¬ (false = true) by decide)] at H; exact H
                        clear H
                        have H := H1
                        clear H1
                        replace H := Option.bind_eq_some_iff.mp H
                        obtain ⟨⟨t126, t127⟩, A330, H⟩ := H
                        replace H : (if t127 = true then (some (t121, t118, (⟨#[]⟩ : ByteArray), wrap64 ((wrap64 ((a0.size : Int) - ((t114.extract ((ji19) : Int).toNat t114.size).size : Int))) + t126))) else (some ((⟨#[]⟩ : ByteArray), (⟨#[]⟩ : ByteArray), (⟨#[]⟩ : ByteArray), 0))) = some (r1, r2, r3, r4) := H
                        have A33 := Aside0.mk A330
                        clear A330
                        by_cases c34 : t127 = true
                        · subst c34
                          have H1 : (some (t121, t118, (⟨#[]⟩ : ByteArray), wrap64 ((wrap64 ((a0.size : Int) - ((t114.extract ((ji19) : Int).toNat t114.size).size : Int))) + t126))) = some (r1, r2, r3, r4) := by rw [if_pos rfl] at H; exact H
                          clear H
                          have H := H1
                          clear H1
                          simp only [Option.some.injEq, Prod.mk.injEq] at H
                          obtain ⟨rfl, rfl, rfl, rfl⟩ := H
                          go_wp2_with (first | ((with_reducible refine gate_callee (f := 29) rfl ?_); refine goesL_ (some 47) rfl rfl Tryz.func29 (by kernel_rfl) rfl #[.string (t114.extract (t116 : Int).toNat t114.size)] rfl (by (try simp only [List.map_toArray, List.map_cons, List.map_nil]); first | done | rfl | (simp only [List.length_drop, List.length_take]; rfl)) ?_; (with_reducible refine (link_Dest.calls (t114.extract (t116 : Int).toNat t114.size) t118 t119 true _ ?side1 A17.out).mono ?_); (case side1 => exact Laid.go hLd (by repeat (first | (with_reducible first | exact HB.out | apply below_alloc | apply pw_below_drewN | apply below_drew1 | refine below_set ?_ GE111.out) | exact HB.out))); rintro e w35 ⟨rfl, hb⟩; refine ⟨_, rfl, ?_⟩; have n0_ := Aside0.mk (blk_below (g := gb111) (o := .cells #[.string (⟨#[]⟩ : ByteArray), .string (⟨#[]⟩ : ByteArray), .string (⟨#[]⟩ : ByteArray)] 26 (0, 0)) (by (with_reducible repeat (first | refine blk_drewN ?_ _ | refine blk_drew ?_ | refine blk_alloc ?_ _)); exact BK111.out) hb); have n1_ := Aside0.mk (below_step (by repeat (first | (with_reducible first | exact HB.out | apply below_alloc | apply pw_below_drewN | apply below_drew1 | refine below_set ?_ GE111.out) | exact HB.out)) hb); clear BK111; clear HB; have BK111 := n0_; have HB := n1_; clear n0_ n1_; (try clear hb); (try clear hb2); (try clear hk); (try clear hi)) | ((with_reducible refine gate_callee (f := 19) rfl ?_); refine goesL_ (some 60) rfl rfl Tryz.func19 (by kernel_rfl) rfl #[.string t112] rfl (by (try simp only [List.map_toArray, List.map_cons, List.map_nil]); first | done | rfl | (simp only [List.length_drop, List.length_take]; rfl)) ?_; (with_reducible refine (class_Label.calls t112 t121 _ ?side1 A22.out).mono ?_); (case side1 => exact Laid.go hLd (by repeat (first | (with_reducible first | exact HB.out | apply below_alloc | apply pw_below_drewN | apply below_drew1 | refine below_set ?_ GE111.out) | exact HB.out))); rintro e w36 ⟨rfl, hb⟩; refine ⟨_, rfl, ?_⟩; have n0_ := Aside0.mk (blk_below (g := gb111) (o := .cells #[.string (⟨#[]⟩ : ByteArray), .string (⟨#[]⟩ : ByteArray), .string (⟨#[]⟩ : ByteArray)] 26 (0, 0)) (by (with_reducible repeat (first | refine blk_drewN ?_ _ | refine blk_drew ?_ | refine blk_alloc ?_ _)); exact BK111.out) hb); have n1_ := Aside0.mk (below_step (by repeat (first | (with_reducible first | exact HB.out | apply below_alloc | apply pw_below_drewN | apply below_drew1 | refine below_set ?_ GE111.out) | exact HB.out)) hb); clear BK111; clear HB; have BK111 := n0_; have HB := n1_; clear n0_ n1_; (try clear hb); (try clear hb2); (try clear hk); (try clear hi)) | ((with_reducible refine gate_dst (N := 12) rfl ?_); refine box_event ?hg (N := 12) ?hd (cs := #[.string (⟨#[]⟩ : ByteArray), .string (⟨#[]⟩ : ByteArray), .string (⟨#[]⟩ : ByteArray)]) (t := 26) ?hr ?_; (case hd => rfl); (case hg => rfl); (case hr => first | (go_simp; done) | (go_simp; rfl)); intro gb122 hg w37 hbox hb; have n0_ := Aside0.mk (blk_below (g := gb111) (o := .cells #[.string (⟨#[]⟩ : ByteArray), .string (⟨#[]⟩ : ByteArray), .string (⟨#[]⟩ : ByteArray)] 26 (0, 0)) (by (with_reducible repeat (first | refine blk_drewN ?_ _ | refine blk_drew ?_ | refine blk_alloc ?_ _)); exact BK111.out) hb); have n1_ := Aside0.mk (below_step (by repeat (first | (with_reducible first | exact HB.out | apply below_alloc | apply pw_below_drewN | apply below_drew1 | refine below_set ?_ GE111.out) | exact HB.out)) hb); have n2_ := Aside0.mk (hbox); have n3_ := Aside0.mk ((by rw [hg]; exact (below_size (by repeat (first | (with_reducible first | exact HB.out | apply below_alloc | apply pw_below_drewN | apply below_drew1 | refine below_set ?_ GE111.out) | exact HB.out))) : w.heap.size ≤ gb122)); have n4_ := Aside0.mk ((by rw [hg]; exact (below_size (by repeat (first | (with_reducible first | exact HB.out | apply below_alloc | apply pw_below_drewN | apply below_drew1 | refine below_set ?_ GE111.out) | exact HB.out))) : w.heap.size ≤ gb122)); have n5_ := Aside0.mk ((by rw [hg]; exact Nat.ne_of_lt (blk_lt (g := gb111) (o := .cells #[.string (⟨#[]⟩ : ByteArray), .string (⟨#[]⟩ : ByteArray), .string (⟨#[]⟩ : ByteArray)] 26 (0, 0)) (by (with_reducible repeat (first | refine blk_drewN ?_ _ | refine blk_drew ?_ | refine blk_alloc ?_ _)); exact BK111.out)) : gb111 ≠ gb122)); have n6_ := Aside0.mk ((by rw [hg]; exact Nat.ne_of_gt (blk_lt (g := gb111) (o := .cells #[.string (⟨#[]⟩ : ByteArray), .string (⟨#[]⟩ : ByteArray), .string (⟨#[]⟩ : ByteArray)] 26 (0, 0)) (by (with_reducible repeat (first | refine blk_drewN ?_ _ | refine blk_drew ?_ | refine blk_alloc ?_ _)); exact BK111.out)) : gb122 ≠ gb111)); clear BK111; clear HB; have BK111 := n0_; have HB := n1_; have BK122 := n2_; have GW122 := n3_; have GE122 := n4_; have NB111_122 := n5_; have NB122_111 := n6_; clear n0_ n1_ n2_ n3_ n4_ n5_ n6_; clear hb hbox hg; have hnb38 := NB122_111.out; have hnc38 := NB111_122.out; have hcz39_0 : w37.cell? ⟨gb122, 0, none⟩ = some (.string (⟨#[]⟩ : ByteArray)) := (blk_cell BK122.out 0).trans rfl; have hcz39_1 : w37.cell? ⟨gb122, 1, none⟩ = some (.string (⟨#[]⟩ : ByteArray)) := (blk_cell BK122.out 1).trans rfl; have hcz39_2 : w37.cell? ⟨gb122, 2, none⟩ = some (.string (⟨#[]⟩ : ByteArray)) := (blk_cell BK122.out 2).trans rfl; have hfz39_0 := blk_frozen BK122.out 0; have hfz39_1 := blk_frozen BK122.out 1; have hfz39_2 := blk_frozen BK122.out 2) | ((with_reducible refine gate_callee (f := 30) rfl ?_); refine goesL_ (some 65) rfl rfl Tryz.func30 (by kernel_rfl) rfl #[.string (t114.extract ((ji19) : Int).toNat t114.size)] rfl (by (try simp only [List.map_toArray, List.map_cons, List.map_nil]); first | done | (simp only [hji19]; rfl) | rfl | (simp only [List.length_drop, List.length_take]; rfl)) ?_; (with_reducible refine (refs_titled.calls kj6 (t114.extract ((ji19) : Int).toNat t114.size) t123 t124 false _ ?side1 A23.out).mono ?_); (case side1 => exact Laid.go hLd (by repeat (first | (with_reducible first | exact HB.out | apply below_alloc | apply pw_below_drewN | apply below_drew1 | refine below_set ?_ GE111.out | refine below_set ?_ GE122.out) | exact HB.out))); rintro e w40 ⟨rfl, hb⟩; refine ⟨_, rfl, ?_⟩; have n0_ := Aside0.mk (blk_below (g := gb111) (o := .cells #[.string (⟨#[]⟩ : ByteArray), .string (⟨#[]⟩ : ByteArray), .string (⟨#[]⟩ : ByteArray)] 26 (0, 0)) (by (with_reducible repeat (first | refine blk_drewN ?_ _ | refine blk_drew ?_ | refine blk_alloc ?_ _)); refine blk_far ?_ NB111_122.out _; (with_reducible repeat (first | refine blk_drewN ?_ _ | refine blk_drew ?_ | refine blk_alloc ?_ _)); refine blk_far ?_ NB111_122.out _; (with_reducible repeat (first | refine blk_drewN ?_ _ | refine blk_drew ?_ | refine blk_alloc ?_ _)); refine blk_far ?_ NB111_122.out _; (with_reducible repeat (first | refine blk_drewN ?_ _ | refine blk_drew ?_ | refine blk_alloc ?_ _)); exact BK111.out) hb); have n1_ := Aside0.mk (blk_below (g := gb122) (o := .cells #[.string t121, .string t118, .string (⟨#[]⟩ : ByteArray)] 26 (0, 0)) (by (with_reducible repeat (first | refine blk_drewN ?_ _ | refine blk_drew ?_ | refine blk_alloc ?_ _)); refine blk_put (cs := #[.string t121, .string t118, .string (⟨#[]⟩ : ByteArray)]) ?_ 2 _ rfl; (with_reducible repeat (first | refine blk_drewN ?_ _ | refine blk_drew ?_ | refine blk_alloc ?_ _)); refine blk_put (cs := #[.string t121, .string (⟨#[]⟩ : ByteArray), .string (⟨#[]⟩ : ByteArray)]) ?_ 1 _ rfl; (with_reducible repeat (first | refine blk_drewN ?_ _ | refine blk_drew ?_ | refine blk_alloc ?_ _)); refine blk_put (cs := #[.string (⟨#[]⟩ : ByteArray), .string (⟨#[]⟩ : ByteArray), .string (⟨#[]⟩ : ByteArray)]) ?_ 0 _ rfl; (with_reducible repeat (first | refine blk_drewN ?_ _ | refine blk_drew ?_ | refine blk_alloc ?_ _)); exact BK122.out) hb); have n2_ := Aside0.mk (below_step (by repeat (first | (with_reducible first | exact HB.out | apply below_alloc | apply pw_below_drewN | apply below_drew1 | refine below_set ?_ GE111.out | refine below_set ?_ GE122.out) | exact HB.out)) hb); clear BK111; clear BK122; clear HB; have BK111 := n0_; have BK122 := n1_; have HB := n2_; clear n0_ n1_ n2_; (try clear hb); (try clear hb2); (try clear hk); (try clear hi)) | ((with_reducible refine gate_callee (f := 31) rfl ?_); refine goesL_ (some 74) rfl rfl Tryz.func31 (by kernel_rfl) rfl #[.string (t114.extract ((ji19) : Int).toNat t114.size)] rfl (by (try simp only [List.map_toArray, List.map_cons, List.map_nil]); first | done | (simp only [hji19]; rfl) | rfl | (simp only [List.length_drop, List.length_take]; rfl)) ?_; (with_reducible refine (refs_end.calls (t114.extract ((ji19) : Int).toNat t114.size) t126 true _ A33.out).mono ?_); rintro e w41 ⟨rfl, hb⟩; refine ⟨_, rfl, ?_⟩; have n0_ := Aside0.mk (blk_below (g := gb111) (o := .cells #[.string (⟨#[]⟩ : ByteArray), .string (⟨#[]⟩ : ByteArray), .string (⟨#[]⟩ : ByteArray)] 26 (0, 0)) (by (with_reducible repeat (first | refine blk_drewN ?_ _ | refine blk_drew ?_ | refine blk_alloc ?_ _)); exact BK111.out) hb); have n1_ := Aside0.mk (blk_below (g := gb122) (o := .cells #[.string t121, .string t118, .string (⟨#[]⟩ : ByteArray)] 26 (0, 0)) (by (with_reducible repeat (first | refine blk_drewN ?_ _ | refine blk_drew ?_ | refine blk_alloc ?_ _)); exact BK122.out) hb); have n2_ := Aside0.mk (below_step (by repeat (first | (with_reducible first | exact HB.out | apply below_alloc | apply pw_below_drewN | apply below_drew1 | refine below_set ?_ GE111.out | refine below_set ?_ GE122.out) | exact HB.out)) hb); clear BK111; clear BK122; clear HB; have BK111 := n0_; have BK122 := n1_; have HB := n2_; clear n0_ n1_ n2_; (try clear hb); (try clear hb2); (try clear hk); (try clear hi); have hcz42_0 : w41.cell? ⟨gb122, 0, none⟩ = some (.string t121) := (blk_cell BK122.out 0).trans rfl; have hcz42_1 : w41.cell? ⟨gb122, 1, none⟩ = some (.string t118) := (blk_cell BK122.out 1).trans rfl; have hcz42_2 : w41.cell? ⟨gb122, 2, none⟩ = some (.string (⟨#[]⟩ : ByteArray)) := (blk_cell BK122.out 2).trans rfl; have hfz42_0 := blk_frozen BK122.out 0; have hfz42_1 := blk_frozen BK122.out 1; have hfz42_2 := blk_frozen BK122.out 2; have hcz43_0 : w41.cell? ⟨gb111, 0, none⟩ = some (.string (⟨#[]⟩ : ByteArray)) := (blk_cell BK111.out 0).trans rfl; have hcz43_1 : w41.cell? ⟨gb111, 1, none⟩ = some (.string (⟨#[]⟩ : ByteArray)) := (blk_cell BK111.out 1).trans rfl; have hcz43_2 : w41.cell? ⟨gb111, 2, none⟩ = some (.string (⟨#[]⟩ : ByteArray)) := (blk_cell BK111.out 2).trans rfl; have hfz43_0 := blk_frozen BK111.out 0; have hfz43_1 := blk_frozen BK111.out 1; have hfz43_2 := blk_frozen BK111.out 2))
                          refine bodyPost_ret (results_ct rfl _ _ gb111 26 #[.string t121, .string t118, .string (⟨#[]⟩ : ByteArray)] (0, 0) _ rfl (by (with_reducible repeat (first | refine blk_drewN ?_ _ | refine blk_drew ?_ | refine blk_alloc ?_ _)); refine blk_put (cs := #[.string t121, .string t118, .string (⟨#[]⟩ : ByteArray)]) ?_ 2 _ rfl; (with_reducible repeat (first | refine blk_drewN ?_ _ | refine blk_drew ?_ | refine blk_alloc ?_ _)); refine blk_put (cs := #[.string t121, .string (⟨#[]⟩ : ByteArray), .string (⟨#[]⟩ : ByteArray)]) ?_ 1 _ rfl; (with_reducible repeat (first | refine blk_drewN ?_ _ | refine blk_drew ?_ | refine blk_alloc ?_ _)); refine blk_put (cs := #[.string (⟨#[]⟩ : ByteArray), .string (⟨#[]⟩ : ByteArray), .string (⟨#[]⟩ : ByteArray)]) ?_ 0 _ rfl; (with_reducible repeat (first | refine blk_drewN ?_ _ | refine blk_drew ?_ | refine blk_alloc ?_ _)); exact BK111.out) Tryz.underlying26 rfl (by kernel_rfl)) rfl ?_
                          exact ⟨by first | rfl | exact retNe _ | (simp [errW_none, errW_some] <;> rfl) | (simp only [← hji19]; first | rfl | (simp [errW_none, errW_some] <;> rfl)) | (simp [*, errW_none, errW_some] <;> rfl), by repeat (first | (with_reducible first | exact HB.out | apply below_alloc | apply pw_below_drewN | apply below_drew1 | refine below_set ?_ GE111.out | refine below_set ?_ GE122.out) | exact HB.out)⟩
                        · replace c34 := Bool.eq_false_iff.mpr c34
                          subst c34
                          have H1 : (some ((⟨#[]⟩ : ByteArray), (⟨#[]⟩ : ByteArray), (⟨#[]⟩ : ByteArray), 0)) = some (r1, r2, r3, r4) := by rw [if_neg (show ¬ (false = true) by decide)] at H; exact H
                          clear H
                          have H := H1
                          clear H1
                          simp only [Option.some.injEq, Prod.mk.injEq] at H
                          obtain ⟨rfl, rfl, rfl, rfl⟩ := H
                          go_wp2_with (first | ((with_reducible refine gate_callee (f := 29) rfl ?_); refine goesL_ (some 47) rfl rfl Tryz.func29 (by kernel_rfl) rfl #[.string (t114.extract (t116 : Int).toNat t114.size)] rfl (by (try simp only [List.map_toArray, List.map_cons, List.map_nil]); first | done | rfl | (simp only [List.length_drop, List.length_take]; rfl)) ?_; (with_reducible refine (link_Dest.calls (t114.extract (t116 : Int).toNat t114.size) t118 t119 true _ ?side1 A17.out).mono ?_); (case side1 => exact Laid.go hLd (by repeat (first | (with_reducible first | exact HB.out | apply below_alloc | apply pw_below_drewN | apply below_drew1 | refine below_set ?_ GE111.out) | exact HB.out))); rintro e w44 ⟨rfl, hb⟩; refine ⟨_, rfl, ?_⟩; have n0_ := Aside0.mk (blk_below (g := gb111) (o := .cells #[.string (⟨#[]⟩ : ByteArray), .string (⟨#[]⟩ : ByteArray), .string (⟨#[]⟩ : ByteArray)] 26 (0, 0)) (by (with_reducible repeat (first | refine blk_drewN ?_ _ | refine blk_drew ?_ | refine blk_alloc ?_ _)); exact BK111.out) hb); have n1_ := Aside0.mk (below_step (by repeat (first | (with_reducible first | exact HB.out | apply below_alloc | apply pw_below_drewN | apply below_drew1 | refine below_set ?_ GE111.out) | exact HB.out)) hb); clear BK111; clear HB; have BK111 := n0_; have HB := n1_; clear n0_ n1_; (try clear hb); (try clear hb2); (try clear hk); (try clear hi)) | ((with_reducible refine gate_callee (f := 19) rfl ?_); refine goesL_ (some 60) rfl rfl Tryz.func19 (by kernel_rfl) rfl #[.string t112] rfl (by (try simp only [List.map_toArray, List.map_cons, List.map_nil]); first | done | rfl | (simp only [List.length_drop, List.length_take]; rfl)) ?_; (with_reducible refine (class_Label.calls t112 t121 _ ?side1 A22.out).mono ?_); (case side1 => exact Laid.go hLd (by repeat (first | (with_reducible first | exact HB.out | apply below_alloc | apply pw_below_drewN | apply below_drew1 | refine below_set ?_ GE111.out) | exact HB.out))); rintro e w45 ⟨rfl, hb⟩; refine ⟨_, rfl, ?_⟩; have n0_ := Aside0.mk (blk_below (g := gb111) (o := .cells #[.string (⟨#[]⟩ : ByteArray), .string (⟨#[]⟩ : ByteArray), .string (⟨#[]⟩ : ByteArray)] 26 (0, 0)) (by (with_reducible repeat (first | refine blk_drewN ?_ _ | refine blk_drew ?_ | refine blk_alloc ?_ _)); exact BK111.out) hb); have n1_ := Aside0.mk (below_step (by repeat (first | (with_reducible first | exact HB.out | apply below_alloc | apply pw_below_drewN | apply below_drew1 | refine below_set ?_ GE111.out) | exact HB.out)) hb); clear BK111; clear HB; have BK111 := n0_; have HB := n1_; clear n0_ n1_; (try clear hb); (try clear hb2); (try clear hk); (try clear hi)) | ((with_reducible refine gate_dst (N := 12) rfl ?_); refine box_event ?hg (N := 12) ?hd (cs := #[.string (⟨#[]⟩ : ByteArray), .string (⟨#[]⟩ : ByteArray), .string (⟨#[]⟩ : ByteArray)]) (t := 26) ?hr ?_; (case hd => rfl); (case hg => rfl); (case hr => first | (go_simp; done) | (go_simp; rfl)); intro gb122 hg w46 hbox hb; have n0_ := Aside0.mk (blk_below (g := gb111) (o := .cells #[.string (⟨#[]⟩ : ByteArray), .string (⟨#[]⟩ : ByteArray), .string (⟨#[]⟩ : ByteArray)] 26 (0, 0)) (by (with_reducible repeat (first | refine blk_drewN ?_ _ | refine blk_drew ?_ | refine blk_alloc ?_ _)); exact BK111.out) hb); have n1_ := Aside0.mk (below_step (by repeat (first | (with_reducible first | exact HB.out | apply below_alloc | apply pw_below_drewN | apply below_drew1 | refine below_set ?_ GE111.out) | exact HB.out)) hb); have n2_ := Aside0.mk (hbox); have n3_ := Aside0.mk ((by rw [hg]; exact (below_size (by repeat (first | (with_reducible first | exact HB.out | apply below_alloc | apply pw_below_drewN | apply below_drew1 | refine below_set ?_ GE111.out) | exact HB.out))) : w.heap.size ≤ gb122)); have n4_ := Aside0.mk ((by rw [hg]; exact (below_size (by repeat (first | (with_reducible first | exact HB.out | apply below_alloc | apply pw_below_drewN | apply below_drew1 | refine below_set ?_ GE111.out) | exact HB.out))) : w.heap.size ≤ gb122)); have n5_ := Aside0.mk ((by rw [hg]; exact Nat.ne_of_lt (blk_lt (g := gb111) (o := .cells #[.string (⟨#[]⟩ : ByteArray), .string (⟨#[]⟩ : ByteArray), .string (⟨#[]⟩ : ByteArray)] 26 (0, 0)) (by (with_reducible repeat (first | refine blk_drewN ?_ _ | refine blk_drew ?_ | refine blk_alloc ?_ _)); exact BK111.out)) : gb111 ≠ gb122)); have n6_ := Aside0.mk ((by rw [hg]; exact Nat.ne_of_gt (blk_lt (g := gb111) (o := .cells #[.string (⟨#[]⟩ : ByteArray), .string (⟨#[]⟩ : ByteArray), .string (⟨#[]⟩ : ByteArray)] 26 (0, 0)) (by (with_reducible repeat (first | refine blk_drewN ?_ _ | refine blk_drew ?_ | refine blk_alloc ?_ _)); exact BK111.out)) : gb122 ≠ gb111)); clear BK111; clear HB; have BK111 := n0_; have HB := n1_; have BK122 := n2_; have GW122 := n3_; have GE122 := n4_; have NB111_122 := n5_; have NB122_111 := n6_; clear n0_ n1_ n2_ n3_ n4_ n5_ n6_; clear hb hbox hg; have hnb47 := NB122_111.out; have hnc47 := NB111_122.out; have hcz48_0 : w46.cell? ⟨gb122, 0, none⟩ = some (.string (⟨#[]⟩ : ByteArray)) := (blk_cell BK122.out 0).trans rfl; have hcz48_1 : w46.cell? ⟨gb122, 1, none⟩ = some (.string (⟨#[]⟩ : ByteArray)) := (blk_cell BK122.out 1).trans rfl; have hcz48_2 : w46.cell? ⟨gb122, 2, none⟩ = some (.string (⟨#[]⟩ : ByteArray)) := (blk_cell BK122.out 2).trans rfl; have hfz48_0 := blk_frozen BK122.out 0; have hfz48_1 := blk_frozen BK122.out 1; have hfz48_2 := blk_frozen BK122.out 2) | ((with_reducible refine gate_callee (f := 30) rfl ?_); refine goesL_ (some 65) rfl rfl Tryz.func30 (by kernel_rfl) rfl #[.string (t114.extract ((ji19) : Int).toNat t114.size)] rfl (by (try simp only [List.map_toArray, List.map_cons, List.map_nil]); first | done | (simp only [hji19]; rfl) | rfl | (simp only [List.length_drop, List.length_take]; rfl)) ?_; (with_reducible refine (refs_titled.calls kj6 (t114.extract ((ji19) : Int).toNat t114.size) t123 t124 false _ ?side1 A23.out).mono ?_); (case side1 => exact Laid.go hLd (by repeat (first | (with_reducible first | exact HB.out | apply below_alloc | apply pw_below_drewN | apply below_drew1 | refine below_set ?_ GE111.out | refine below_set ?_ GE122.out) | exact HB.out))); rintro e w49 ⟨rfl, hb⟩; refine ⟨_, rfl, ?_⟩; have n0_ := Aside0.mk (blk_below (g := gb111) (o := .cells #[.string (⟨#[]⟩ : ByteArray), .string (⟨#[]⟩ : ByteArray), .string (⟨#[]⟩ : ByteArray)] 26 (0, 0)) (by (with_reducible repeat (first | refine blk_drewN ?_ _ | refine blk_drew ?_ | refine blk_alloc ?_ _)); refine blk_far ?_ NB111_122.out _; (with_reducible repeat (first | refine blk_drewN ?_ _ | refine blk_drew ?_ | refine blk_alloc ?_ _)); refine blk_far ?_ NB111_122.out _; (with_reducible repeat (first | refine blk_drewN ?_ _ | refine blk_drew ?_ | refine blk_alloc ?_ _)); refine blk_far ?_ NB111_122.out _; (with_reducible repeat (first | refine blk_drewN ?_ _ | refine blk_drew ?_ | refine blk_alloc ?_ _)); exact BK111.out) hb); have n1_ := Aside0.mk (blk_below (g := gb122) (o := .cells #[.string t121, .string t118, .string (⟨#[]⟩ : ByteArray)] 26 (0, 0)) (by (with_reducible repeat (first | refine blk_drewN ?_ _ | refine blk_drew ?_ | refine blk_alloc ?_ _)); refine blk_put (cs := #[.string t121, .string t118, .string (⟨#[]⟩ : ByteArray)]) ?_ 2 _ rfl; (with_reducible repeat (first | refine blk_drewN ?_ _ | refine blk_drew ?_ | refine blk_alloc ?_ _)); refine blk_put (cs := #[.string t121, .string (⟨#[]⟩ : ByteArray), .string (⟨#[]⟩ : ByteArray)]) ?_ 1 _ rfl; (with_reducible repeat (first | refine blk_drewN ?_ _ | refine blk_drew ?_ | refine blk_alloc ?_ _)); refine blk_put (cs := #[.string (⟨#[]⟩ : ByteArray), .string (⟨#[]⟩ : ByteArray), .string (⟨#[]⟩ : ByteArray)]) ?_ 0 _ rfl; (with_reducible repeat (first | refine blk_drewN ?_ _ | refine blk_drew ?_ | refine blk_alloc ?_ _)); exact BK122.out) hb); have n2_ := Aside0.mk (below_step (by repeat (first | (with_reducible first | exact HB.out | apply below_alloc | apply pw_below_drewN | apply below_drew1 | refine below_set ?_ GE111.out | refine below_set ?_ GE122.out) | exact HB.out)) hb); clear BK111; clear BK122; clear HB; have BK111 := n0_; have BK122 := n1_; have HB := n2_; clear n0_ n1_ n2_; (try clear hb); (try clear hb2); (try clear hk); (try clear hi)) | ((with_reducible refine gate_callee (f := 31) rfl ?_); refine goesL_ (some 74) rfl rfl Tryz.func31 (by kernel_rfl) rfl #[.string (t114.extract ((ji19) : Int).toNat t114.size)] rfl (by (try simp only [List.map_toArray, List.map_cons, List.map_nil]); first | done | (simp only [hji19]; rfl) | rfl | (simp only [List.length_drop, List.length_take]; rfl)) ?_; (with_reducible refine (refs_end.calls (t114.extract ((ji19) : Int).toNat t114.size) t126 false _ A33.out).mono ?_); rintro e w50 ⟨rfl, hb⟩; refine ⟨_, rfl, ?_⟩; have n0_ := Aside0.mk (blk_below (g := gb111) (o := .cells #[.string (⟨#[]⟩ : ByteArray), .string (⟨#[]⟩ : ByteArray), .string (⟨#[]⟩ : ByteArray)] 26 (0, 0)) (by (with_reducible repeat (first | refine blk_drewN ?_ _ | refine blk_drew ?_ | refine blk_alloc ?_ _)); exact BK111.out) hb); have n1_ := Aside0.mk (blk_below (g := gb122) (o := .cells #[.string t121, .string t118, .string (⟨#[]⟩ : ByteArray)] 26 (0, 0)) (by (with_reducible repeat (first | refine blk_drewN ?_ _ | refine blk_drew ?_ | refine blk_alloc ?_ _)); exact BK122.out) hb); have n2_ := Aside0.mk (below_step (by repeat (first | (with_reducible first | exact HB.out | apply below_alloc | apply pw_below_drewN | apply below_drew1 | refine below_set ?_ GE111.out | refine below_set ?_ GE122.out) | exact HB.out)) hb); clear BK111; clear BK122; clear HB; have BK111 := n0_; have BK122 := n1_; have HB := n2_; clear n0_ n1_ n2_; (try clear hb); (try clear hb2); (try clear hk); (try clear hi); have hcz51_0 : w50.cell? ⟨gb111, 0, none⟩ = some (.string (⟨#[]⟩ : ByteArray)) := (blk_cell BK111.out 0).trans rfl; have hcz51_1 : w50.cell? ⟨gb111, 1, none⟩ = some (.string (⟨#[]⟩ : ByteArray)) := (blk_cell BK111.out 1).trans rfl; have hcz51_2 : w50.cell? ⟨gb111, 2, none⟩ = some (.string (⟨#[]⟩ : ByteArray)) := (blk_cell BK111.out 2).trans rfl; have hfz51_0 := blk_frozen BK111.out 0; have hfz51_1 := blk_frozen BK111.out 1; have hfz51_2 := blk_frozen BK111.out 2))
                          refine bodyPost_ret (results_ct rfl _ _ gb111 26 #[.string (⟨#[]⟩ : ByteArray), .string (⟨#[]⟩ : ByteArray), .string (⟨#[]⟩ : ByteArray)] (0, 0) _ rfl (by (with_reducible repeat (first | refine blk_drewN ?_ _ | refine blk_drew ?_ | refine blk_alloc ?_ _)); refine blk_put (cs := #[.string (⟨#[]⟩ : ByteArray), .string (⟨#[]⟩ : ByteArray), .string (⟨#[]⟩ : ByteArray)]) ?_ 2 _ rfl; (with_reducible repeat (first | refine blk_drewN ?_ _ | refine blk_drew ?_ | refine blk_alloc ?_ _)); refine blk_put (cs := #[.string (⟨#[]⟩ : ByteArray), .string (⟨#[]⟩ : ByteArray), .string (⟨#[]⟩ : ByteArray)]) ?_ 1 _ rfl; (with_reducible repeat (first | refine blk_drewN ?_ _ | refine blk_drew ?_ | refine blk_alloc ?_ _)); refine blk_put (cs := #[.string (⟨#[]⟩ : ByteArray), .string (⟨#[]⟩ : ByteArray), .string (⟨#[]⟩ : ByteArray)]) ?_ 0 _ rfl; (with_reducible repeat (first | refine blk_drewN ?_ _ | refine blk_drew ?_ | refine blk_alloc ?_ _)); exact BK111.out) Tryz.underlying26 rfl (by kernel_rfl)) rfl ?_
                          exact ⟨by first | rfl | exact retNe _ | (simp [errW_none, errW_some] <;> rfl) | (simp only [← hji19]; first | rfl | (simp [errW_none, errW_some] <;> rfl)) | (simp [*, errW_none, errW_some] <;> rfl), by repeat (first | (with_reducible first | exact HB.out | apply below_alloc | apply pw_below_drewN | apply below_drew1 | refine below_set ?_ GE111.out | refine below_set ?_ GE122.out) | exact HB.out)⟩
                    · rw [if_neg c21] at H
                      exact absurd H (by simp)
                  · rw [if_neg c20] at H
                    exact absurd H (by simp)
                · replace c18 := Bool.eq_false_iff.mpr c18
                  subst c18
                  have H1 : (some ((⟨#[]⟩ : ByteArray), (⟨#[]⟩ : ByteArray), (⟨#[]⟩ : ByteArray), 0)) = some (r1, r2, r3, r4) := by rw [if_neg (show ¬ (false = true) by decide)] at H; exact H
                  clear H
                  have H := H1
                  clear H1
                  simp only [Option.some.injEq, Prod.mk.injEq] at H
                  obtain ⟨rfl, rfl, rfl, rfl⟩ := H
                  go_wp2_with (first | ((with_reducible refine gate_callee (f := 29) rfl ?_); refine goesL_ (some 47) rfl rfl Tryz.func29 (by kernel_rfl) rfl #[.string (t114.extract (t116 : Int).toNat t114.size)] rfl (by (try simp only [List.map_toArray, List.map_cons, List.map_nil]); first | done | rfl | (simp only [List.length_drop, List.length_take]; rfl)) ?_; (with_reducible refine (link_Dest.calls (t114.extract (t116 : Int).toNat t114.size) t118 t119 false _ ?side1 A17.out).mono ?_); (case side1 => exact Laid.go hLd (by repeat (first | (with_reducible first | exact HB.out | apply below_alloc | apply pw_below_drewN | apply below_drew1 | refine below_set ?_ GE111.out) | exact HB.out))); rintro e w52 ⟨rfl, hb⟩; refine ⟨_, rfl, ?_⟩; have n0_ := Aside0.mk (blk_below (g := gb111) (o := .cells #[.string (⟨#[]⟩ : ByteArray), .string (⟨#[]⟩ : ByteArray), .string (⟨#[]⟩ : ByteArray)] 26 (0, 0)) (by (with_reducible repeat (first | refine blk_drewN ?_ _ | refine blk_drew ?_ | refine blk_alloc ?_ _)); exact BK111.out) hb); have n1_ := Aside0.mk (below_step (by repeat (first | (with_reducible first | exact HB.out | apply below_alloc | apply pw_below_drewN | apply below_drew1 | refine below_set ?_ GE111.out) | exact HB.out)) hb); clear BK111; clear HB; have BK111 := n0_; have HB := n1_; clear n0_ n1_; (try clear hb); (try clear hb2); (try clear hk); (try clear hi); have hcz53_0 : w52.cell? ⟨gb111, 0, none⟩ = some (.string (⟨#[]⟩ : ByteArray)) := (blk_cell BK111.out 0).trans rfl; have hcz53_1 : w52.cell? ⟨gb111, 1, none⟩ = some (.string (⟨#[]⟩ : ByteArray)) := (blk_cell BK111.out 1).trans rfl; have hcz53_2 : w52.cell? ⟨gb111, 2, none⟩ = some (.string (⟨#[]⟩ : ByteArray)) := (blk_cell BK111.out 2).trans rfl; have hfz53_0 := blk_frozen BK111.out 0; have hfz53_1 := blk_frozen BK111.out 1; have hfz53_2 := blk_frozen BK111.out 2))
                  refine bodyPost_ret (results_ct rfl _ _ gb111 26 #[.string (⟨#[]⟩ : ByteArray), .string (⟨#[]⟩ : ByteArray), .string (⟨#[]⟩ : ByteArray)] (0, 0) _ rfl (by (with_reducible repeat (first | refine blk_drewN ?_ _ | refine blk_drew ?_ | refine blk_alloc ?_ _)); refine blk_put (cs := #[.string (⟨#[]⟩ : ByteArray), .string (⟨#[]⟩ : ByteArray), .string (⟨#[]⟩ : ByteArray)]) ?_ 2 _ rfl; (with_reducible repeat (first | refine blk_drewN ?_ _ | refine blk_drew ?_ | refine blk_alloc ?_ _)); refine blk_put (cs := #[.string (⟨#[]⟩ : ByteArray), .string (⟨#[]⟩ : ByteArray), .string (⟨#[]⟩ : ByteArray)]) ?_ 1 _ rfl; (with_reducible repeat (first | refine blk_drewN ?_ _ | refine blk_drew ?_ | refine blk_alloc ?_ _)); refine blk_put (cs := #[.string (⟨#[]⟩ : ByteArray), .string (⟨#[]⟩ : ByteArray), .string (⟨#[]⟩ : ByteArray)]) ?_ 0 _ rfl; (with_reducible repeat (first | refine blk_drewN ?_ _ | refine blk_drew ?_ | refine blk_alloc ?_ _)); exact BK111.out) Tryz.underlying26 rfl (by kernel_rfl)) rfl ?_
                  exact ⟨by first | rfl | exact retNe _ | (simp [errW_none, errW_some] <;> rfl) | (simp [*, errW_none, errW_some] <;> rfl), by repeat (first | (with_reducible first | exact HB.out | apply below_alloc | apply pw_below_drewN | apply below_drew1 | refine below_set ?_ GE111.out) | exact HB.out)⟩
              · rw [if_neg c16] at H
                exact absurd H (by simp)
            · rw [if_neg c15] at H
              exact absurd H (by simp)
    · rw [if_neg c4] at H
      exact absurd H (by simp)
  · rw [if_neg c3] at H
    exact absurd H (by simp)


end Go.Proofs.YtekifcbokdidlaaGreatDoor.PA

namespace Go.Proofs.YtekifcbokdidlaaGreatDoor.PA
open Go.RowKit Go.Shelf Go.Proofs.YtekifcbokdidlaaGreatDoor.Pl Go.Proofs.YtekifcbokdidlaaGreatDoorW.PrintWords Go.Proofs.YtekifcbokdidlaaGreatDoorW.PrintLast Go.Proofs.YtekifcbokdidlaaGreatDoorW.PrintMore
set_option linter.unusedVariables false
attribute [local go_sem] Oper.semAt_some

theorem each_in (F : Fence) (n : Nat) (hF : F.fn 37) (hro : F.round = none) (s : ByteArray) (w : World) :
    CallsIn F n Tryz.prog 37 #[.string s] w fun e w' => e = .returned (.func (.func 61) #[] #[.pointer (some ⟨w.heap.size, 0, none⟩)]) ∧ w' = w.alloc (.cells #[.string s] 9) := by
  refine callsIn_of_wp Tryz.func37 rfl hF ?_ hro
  simp only [Tryz.ntmps37, List.size_toArray, List.length_cons, List.length_nil, Nat.reduceAdd, Nat.reduceSub, Array.replicate_succ, Array.replicate_zero, List.push_toArray, List.append_toArray, List.nil_append, List.cons_append]
  gi_wp2
  go_ret
  exact ⟨rfl, rfl⟩
/-- A range over a function whose rounds are met within the function's own walk. -/
theorem range_seq {F : Fence} {n : Nat} {P : Program} {g : Operand} {ps : Array Tmp} {assign body : Code} {Q : Exit → Act → World → Prop} {a : Act} {w : World}
    (hro : F.round = none) (h1 : F.depth.isSome = true → 1 ≤ n) {gf : Nat} {lb : Array Value} (hg : a.eval g = .func (.func gf) #[] lb) (hFg : F.fn gf) (eg : ∀ args w, (callFunc gf args).run P w = .ok (.enter gf args) w)
    (Fin : World → Prop)
    (hiter : ∀ (fn : FuncId) (rc : Loop), F.fn fn → rc.state = .ready → rc.pending = none → rc.fn = fn → rc.tmps = a.tmps → rc.params = ps → rc.assign = assign → rc.body = body →
      CallsIn F (n - 1) P gf (#[.func (.yield (w.heap.size + 1)) #[] #[]] ++ lb) ((w.alloc (.deferred (some []))).alloc (.loop rc)) fun e W2 => (∃ v, e = .returned v) ∧ W2.heap[w.heap.size + 1]? = some (.loop rc) ∧ Fin W2)
    (hdone : ∀ (rc : Loop) (W2 : World), Fin W2 → W2.heap[w.heap.size + 1]? = some (.loop rc) → Q .normal { a with defers := { target := .collected w.heap.size, args := #[] } :: a.defers } (W2.putObj (w.heap.size + 1) (.loop { rc with state := .exhausted }))) :
    (Code.rangeFunc g ps assign body).wpIn F n P Q a w := by
  refine wpIn_rangeFunc (fun fn hfn => ?_)
  rw [hro]
  obtain ⟨rc, hrc⟩ : ∃ rc : Loop, rc = { state := .ready, pending := none, fn := fn, tmps := a.tmps, params := ps, assign := assign, body := body, defers := w.heap.size } := ⟨_, rfl⟩
  obtain ⟨W1, hW1⟩ : ∃ W1, W1 = (w.alloc (.deferred (some []))).alloc (.loop rc) := ⟨_, rfl⟩
  refine ⟨w.heap.size + 1, [{ target := .collected w.heap.size, args := #[] }], W1, { target := .fn (.func gf) lb, args := #[.func (.yield (w.heap.size + 1)) #[] #[]] }, W1, gf, #[.func (.yield (w.heap.size + 1)) #[] #[]] ++ lb, W1, ?_, ?_, ?_, ?_, h1, CallsIn.mono (by rw [hW1]; exact hiter fn rc hfn (by rw [hrc]) (by rw [hrc]) (by rw [hrc]) (by rw [hrc]) (by rw [hrc]) (by rw [hrc]) (by rw [hrc])) ?_⟩
  · rw [hW1, hrc]
    exact run_enterLoop_outer _ _ _ _ _
  · simp only [resolve, hg]
    simp [go_sem]
  · intro f' hf'
    simp [Target.leads] at hf'
    subst hf'
    exact hFg
  · simp [invoke, go_sem, eg]
  · rintro e W2 ⟨⟨v, rfl⟩, hl, hf⟩
    exact ⟨none, _, (run_endLoop hl (by rw [hrc]; simp)).trans (by rw [hrc]), hdone _ W2 hf hl⟩
/-- What stands in memory between two rounds. -/
structure ASt (w : World) (Bo Bs0 D l : Nat) (rc : Loop) (acc : List S26) (s : ByteArray) (W : World) : Prop where
  laid : Laid W
  box : ∃ v, Boxed W Bo 22 v ∧ W.ownsRow w.heap.size 26 3 v acc.length (acc.flatMap encR3)
  boxS : Boxed W Bs0 9 (.string s)
  dfr : W.heap[D]? = some (.deferred (some []))
  rcd : W.heap[l]? = some (.loop rc)
  bel : Below w.heap.size w W
theorem ASt.go {w : World} {Bo Bs0 D l : Nat} {rc : Loop} {acc : List S26} {s : ByteArray} {W X : World} (h : ASt w Bo Bs0 D l rc acc s W) (hb : Below W.heap.size W X) : ASt w Bo Bs0 D l rc acc s X where
  laid := h.laid.go hb
  box := by
    obtain ⟨v, h1, h2⟩ := h.box
    exact ⟨v, (hb.block _ h1.lt).trans h1, pw_own_below h2 hb⟩
  boxS := (hb.block _ h.boxS.lt).trans h.boxS
  dfr := (hb.block _ (Array.getElem?_eq_some_iff.1 h.dfr).1).trans h.dfr
  rcd := (hb.block _ (Array.getElem?_eq_some_iff.1 h.rcd).1).trans h.rcd
  bel := h.bel.trans (hb.mono h.bel.size)
theorem ASt.set {w : World} {Bo Bs0 D l B : Nat} {rc : Loop} {acc : List S26} {s x y : ByteArray} {W : World} (hLd : Laid w) (h : ASt w Bo Bs0 D l rc acc s W) (hB : Boxed W B 9 (.string x)) (h1 : Bo ≠ B) (h2 : Bs0 ≠ B) (h3 : w.heap.size ≤ B) :
    ASt w Bo Bs0 D l rc acc s (W.setCell ⟨B, 0, none⟩ (.string y)) where
  laid := hLd.go (h.bel.trans ((Below.refl _ W).setCell (p := ⟨B, 0, none⟩) h3 _))
  box := by
    obtain ⟨v, hv, hr⟩ := h.box
    exact ⟨v, hv.kept (grownBy_setCell' _ _ _) (by simpa using h1), hr.kept (grownBy_setCell' W B (.string y)) (.inr (hB.not_row (by decide) hr).symm)⟩
  boxS := h.boxS.kept (grownBy_setCell' _ _ _) (by simpa using h2)
  dfr := (KeepsOthers.setCell W _ _).same _ _ h.dfr rfl
  rcd := (KeepsOthers.setCell W _ _).same _ _ h.rcd rfl
  bel := h.bel.trans ((Below.refl _ W).setCell (p := ⟨B, 0, none⟩) h3 _)
/-- The definitions a text begins with, and what is left; by at most so many steps. -/
def refs_All.l (k : Nat) : Nat → ByteArray → List S26 → Option (List S26 × ByteArray)
  | 0, _, _ => none
  | f + 1, s, acc => (refs_Take.f k s).bind fun t => if 0 ≤ t.2.2.2 ∧ t.2.2.2 ≤ (s.size : Int) then (if t.2.2.2 = 0 then some (acc, s) else refs_All.l k f (s.extract t.2.2.2.toNat s.size) (acc ++ [⟨t.1, t.2.1, t.2.2.1⟩])) else none
theorem cell_three_new (W : World) (x y z : Value) (t : TypeId) : ∀ j u, [x, y, z][j]? = some u → (W.alloc (.cells #[x, y, z] t)).cell? ((⟨W.heap.size, 0, none⟩ : Addr).add j) = some u := by
  intro j u hj
  match j, hj with
  | 0, hj => simp at hj; subst hj; simp [Addr.add]
  | 1, hj => simp at hj; subst hj; simp [Addr.add]
  | 2, hj => simp at hj; subst hj; simp [Addr.add]
  | (j + 3), hj => simp at hj
theorem refs_R {W : World} {base : Nat} {v : Value} {acc : List S26} (h : W.ownsRow base 26 3 v acc.length (acc.flatMap encR3)) : Kd.R k26 26 W base (fun _ => True) v acc := by
  refine ⟨fun _ _ => trivial, _, h, ?_⟩
  have key : ∀ (l pre : List S26) (cs : List Value), Reps (k26.M W base (fun k => True ∧ some k ≠ v.ownBlock)) 3 pre cs → Reps (k26.M W base (fun k => True ∧ some k ≠ v.ownBlock)) 3 (pre ++ l) (cs ++ l.flatMap encR3) := by
    intro l
    induction l with
    | nil => intro pre cs h; simpa using h
    | cons x l ih =>
      intro pre cs h
      have := ih (pre ++ [x]) (cs ++ encR3 x) (h.snoc (k26_mkM _ _ _ x) rfl)
      simpa [List.append_assoc] using this
  exact key acc [] [] (Reps.none _ _)
theorem infoR : (Tryz.prog.info? 26).map (fun i => (i.zero, i.size, i.bytes)) = some (some (.agg #[.string ⟨#[]⟩, .string ⟨#[]⟩, .string ⟨#[]⟩]), 3, 48) := by kernel_rfl
set_option maxRecDepth 100000 in
set_option maxHeartbeats 2000000 in
theorem all_walk (k : Nat) (s0 : ByteArray) (R : List S26 × ByteArray) (w : World) (hLd : Laid w) (hs : s0.size ≤ 1048576) (hR : ∃ f, refs_All.l k f s0 [] = some R) :
    Calls Tryz.prog 17 #[.string s0] w fun e w' => ∃ v0_, e = .returned (.tuple #[v0_, .string R.2]) ∧ Kd.R k26 26 w' w.heap.size (fun _ => True) v0_ R.1 ∧ Below w.heap.size w w' := by
  refine (callsIn_wide (n := 5)).1 ?_
  refine callsIn_of_wp_marks Tryz.func17 rfl trivial ?_ rfl
  simp only [Tryz.ntmps17, List.size_toArray, List.length_cons, List.length_nil, Nat.reduceAdd, Nat.reduceSub, Array.replicate_succ, Array.replicate_zero, List.push_toArray, List.append_toArray, List.nil_append, List.cons_append]
  gi_wp2
  refine ⟨trivial, ?_⟩
  refine (each_in Fence.wide 4 trivial rfl s0 _).mono ?_
  rintro e w' ⟨rfl, rfl⟩
  gi_wp2
  have hB1 : Below w.heap.size w (((w.alloc (.cells #[.string s0] 9)).alloc (.cells #[.slice none 0 0] 22)).alloc (.cells #[.string s0] 9)) := (((Below.refl w.heap.size w).alloc (Nat.le_refl _) _).alloc (by simp) _).alloc (by simp; omega) _
  have b1 := Boxed.new w 9 (.string s0)
  have b2 := Boxed.new (w.alloc (.cells #[.string s0] 9)) 22 (.slice none 0 0)
  have b3 := Boxed.new ((w.alloc (.cells #[.string s0] 9)).alloc (.cells #[.slice none 0 0] 22)) 9 (.string s0)
  replace b1 := (b1.alloc (.cells #[.slice none 0 0] 22)).alloc (.cells #[.string s0] 9)
  replace b2 := b2.alloc (.cells #[.string s0] 9)
  rw [World.size_alloc] at b2
  rw [World.size_alloc, World.size_alloc] at b3
  obtain ⟨W, hW⟩ : ∃ W, W = ((w.alloc (.cells #[.string s0] 9)).alloc (.cells #[.slice none 0 0] 22)).alloc (.cells #[.string s0] 9) := ⟨_, rfl⟩
  have hWs : W.heap.size = w.heap.size + 3 := by rw [hW]; simp
  rw [← hW] at hB1 b1 b2 b3
  rw [show ((w.alloc (Obj.cells #[Value.string s0] 9)).alloc (Obj.cells #[Value.slice none 0 0] 22)).alloc (Obj.cells #[Value.string s0] 9) = W from hW.symm]
  clear hW
  refine range_seq rfl (by intro h; cases h) (gf := 61) (lb := #[.pointer (some ⟨w.heap.size + 1 + 1, 0, none⟩)]) rfl trivial (enters_of Tryz.func61 (by kernel_rfl) rfl)
    (fun W2 => ∃ rc, ASt w (w.heap.size + 1) w.heap.size W.heap.size (W.heap.size + 1) rc R.1 R.2 W2) ?iter ?done
  case iter =>
    intro fn rc hfn hst hpe hfe htm hps has hbo
    have hb2 : Below W.heap.size W ((W.alloc (.deferred (some []))).alloc (.loop rc)) := ((Below.refl _ W).alloc (Nat.le_refl _) _).alloc (by simp) _
    have hb9 := hb2
    have hA0 : ASt w (w.heap.size + 1) w.heap.size W.heap.size (W.heap.size + 1) rc [] s0 ((W.alloc (.deferred (some []))).alloc (.loop rc)) := by
      refine ⟨(hLd.go hB1).go hb2, ⟨_, (hb2.block _ b2.lt).trans b2, World.ownsRow_nil _ _ _ _⟩, (hb2.block _ b1.lt).trans b1, ?_, ?_, hB1.trans (hb2.mono (by omega))⟩
      · exact (Below.heap_alloc _ _ _ (by simp)).trans (World.alloc_heap_new W _)
      · have := World.alloc_heap_new (W.alloc (.deferred (some []))) (.loop rc)
        rwa [World.size_alloc] at this
    have hround : ∀ (acc : List S26) (r : S26) (s rest : ByteArray) (X : World), acc.length ≤ 1048576 → ASt w (w.heap.size + 1) w.heap.size W.heap.size (W.heap.size + 1) rc acc s X → Boxed X (w.heap.size + 1 + 1) 9 (.string rest) →
        YieldAt Fence.wide (5 - 1 - 1) Tryz.prog (W.heap.size + 1) #[.agg #[.string r.f0, .string r.f1, .string r.f2], .string rest] X fun e Y => e = .returned (.bool true) ∧ ASt w (w.heap.size + 1) w.heap.size W.heap.size (W.heap.size + 1) rc (acc ++ [r]) rest Y ∧ Boxed Y (w.heap.size + 1 + 1) 9 (.string rest) := by
      intro acc r s rest X hacc hA hBs
      have hy := run_yield (P := Tryz.prog) (args := #[.agg #[.string r.f0, .string r.f1, .string r.f2], .string rest]) hA.rcd (by rw [hps]; rfl)
      rw [htm, hps, has, hbo, hfe] at hy
      refine ⟨fn, _, _, _, hy, roundIn_of_wpIn hfn ?_⟩
      clear hy
      gi_wp2
      have hb1 : Below X.heap.size X (X.alloc (.cells #[.string r.f0, .string r.f1, .string r.f2] 26 (0, 0))) := below_alloc (Below.refl _ _) _
      have hA1 := hA.go hb1
      have hBs1 : Boxed (X.alloc (.cells #[.string r.f0, .string r.f1, .string r.f2] 26 (0, 0))) (w.heap.size + 1 + 1) 9 (.string rest) := (hb1.block _ hBs.lt).trans hBs
      have hr1 := heap_alloc_new X (.cells #[.string r.f0, .string r.f1, .string r.f2] 26 (0, 0))
      have hXl : X.heap.size < (X.alloc (.cells #[.string r.f0, .string r.f1, .string r.f2] 26 (0, 0))).heap.size := by simp
      have hXb := hA.bel.size
      have hXr := (Array.getElem?_eq_some_iff.1 hA.rcd).1
      obtain ⟨X1, hX1⟩ : ∃ X1, X1 = X.alloc (.cells #[.string r.f0, .string r.f1, .string r.f2] 26 (0, 0)) := ⟨_, rfl⟩
      rw [← hX1] at hA1 hBs1 hr1 hXl
      rw [show (X.alloc (Obj.cells #[Value.string r.f0, Value.string r.f1, Value.string r.f2] 26)) = X1 from hX1.symm]
      clear hX1 hb1 hA hBs
      obtain ⟨Xs, hXs⟩ : ∃ Xs, X.heap.size = Xs := ⟨_, rfl⟩
      rw [hXs] at hr1 hXl hXb hXr ⊢
      clear hXs
      rw [hWs] at hA1 hXr
      refine ⟨_, run_beginRound hA1.rcd hst, ?_⟩
      obtain ⟨v, hv1, hrow1⟩ := hA1.box
      have hrow2 := ownsRow_putObj hrow1 (.loop { rc with state := .busy }) hA1.rcd rfl
      have hoth : ∀ j, j ≠ w.heap.size + 3 + 1 → (X1.putObj (w.heap.size + 3 + 1) (.loop { rc with state := .busy })).heap[j]? = X1.heap[j]? := fun j hj => World.putObj_heap_other hj
      have hv2 : Boxed (X1.putObj (w.heap.size + 3 + 1) (.loop { rc with state := .busy })) (w.heap.size + 1) 22 v := (hoth _ (by omega)).trans hv1
      have hS2 : Boxed (X1.putObj (w.heap.size + 3 + 1) (.loop { rc with state := .busy })) w.heap.size 9 (.string s) := (hoth _ (by omega)).trans hA1.boxS
      have hI2 : Boxed (X1.putObj (w.heap.size + 3 + 1) (.loop { rc with state := .busy })) (w.heap.size + 1 + 1) 9 (.string rest) := (hoth _ (by omega)).trans hBs1
      have hr2 := (hoth Xs (by omega)).trans hr1
      have hd2 := (hoth (w.heap.size + 3) (by omega)).trans hA1.dfr
      have hl2 : (X1.putObj (w.heap.size + 3 + 1) (.loop { rc with state := .busy })).heap[w.heap.size + 3 + 1]? = some (.loop { rc with state := .busy }) := World.putObj_heap_same (by omega)
      have hB2 : Below w.heap.size w (X1.putObj (w.heap.size + 3 + 1) (.loop { rc with state := .busy })) := hA1.bel.trans (belowK_b (w := w) (Nat.le_refl _) X1 _ _ _ (by omega) hA1.rcd rfl rfl)
      have hL2 := hLd.go hB2
      have hz2 : Xs < (X1.putObj (w.heap.size + 3 + 1) (.loop { rc with state := .busy })).heap.size := by rw [World.putObj_size]; omega
      obtain ⟨X2, hX2⟩ : ∃ X2, X2 = X1.putObj (w.heap.size + 3 + 1) (.loop { rc with state := .busy }) := ⟨_, rfl⟩
      rw [← hX2] at hrow2 hv2 hS2 hI2 hr2 hd2 hl2 hB2 hL2 hz2 ⊢
      clear hX2 hoth hv1 hrow1 hA1 hBs1 hr1
      obtain ⟨i0, hi, hi0, hi1, hi2⟩ := info_parts infoR
      obtain ⟨p0, p1, p2, g0, g1, g2⟩ := row3_facts hr2
      have hvc := hv2.cell
      have hsc := hS2.cell
      have hsf := hS2.frozen
      have hb2s := hB2.size
      gi_wp2_with (gi_at_builtin; refine wpListIn_append_own _ rfl _ _ 22 rfl w.heap.size 26 i0 (.agg #[.string ⟨#[]⟩, .string ⟨#[]⟩, .string ⟨#[]⟩]) 3 48 Tryz.underlying22 hi hi0 hi1 hi2 rfl (by decide) _ _ _ rfl (hrow2.alloc _) ⟨X2.heap.size, 0, none⟩ 1 1 [.string r.f0, .string r.f1, .string r.f2] rfl rfl (cell_three_new _ _ _ _ _) (by simp [Value.oneCell']) (by simp only [maxLen]; omega) (by omega) (by simp; omega) ?_; intro v' w1 hown' hgrow _; obtain ⟨g', cap', rfl⟩ := ownsRow_succ hown'; obtain ⟨hv3, hv4, hr4, hk4, hb4⟩ := hv2.appended (by decide) hrow2 hB2.size (by omega) hown' hgrow; have hS3 := (hS2.alloc _).kept hgrow (hS2.not_row (by decide) hrow2); have hc3 := hv3.cell; have hf3 := hv3.frozen; have hc4 := hS3.cell; have hf4 := hS3.frozen)
      have hI3 := (hI2.alloc _).kept hgrow (hI2.not_row (by decide) hrow2)
      have hS4 : Boxed (w1.setCell ⟨w.heap.size + 1, 0, none⟩ (.slice (some ⟨g', 0, none⟩) (acc.length + 1) cap')) w.heap.size 9 (.string s) := hS3.kept (grownBy_setCell' _ _ _) (by simp)
      have hI4 : Boxed (w1.setCell ⟨w.heap.size + 1, 0, none⟩ (.slice (some ⟨g', 0, none⟩) (acc.length + 1) cap')) (w.heap.size + 1 + 1) 9 (.string rest) := hI3.kept (grownBy_setCell' _ _ _) (by simp)
      obtain ⟨w2, hw2⟩ : ∃ w2, w1.setCell ⟨w.heap.size + 1, 0, none⟩ (.slice (some ⟨g', 0, none⟩) (acc.length + 1) cap') = w2 := ⟨_, rfl⟩
      rw [hw2] at hv4 hr4 hk4 hb4 hS4 hI4 ⊢
      clear hw2 hown' hgrow hv3 hc3 hf3 hc4 hf4 hS3 hI3
      have hv5 : Boxed (w2.setCell ⟨w.heap.size, 0, none⟩ (.string rest)) (w.heap.size + 1) 22 (.slice (some ⟨g', 0, none⟩) (acc.length + 1) cap') := hv4.kept (grownBy_setCell' _ _ _) (by simp)
      have hI5 : Boxed (w2.setCell ⟨w.heap.size, 0, none⟩ (.string rest)) (w.heap.size + 1 + 1) 9 (.string rest) := hI4.kept (grownBy_setCell' _ _ _) (by simp; omega)
      have hS5 := hS4.set (.string rest)
      have hr5 := hr4.kept (grownBy_setCell' w2 w.heap.size (.string rest)) (.inr (hS4.not_row (by decide) hr4).symm)
      have hk5 : KeepsOthers X2 (w2.setCell ⟨w.heap.size, 0, none⟩ (.string rest)) := hk4.trans (KeepsOthers.setCell _ _ _)
      have hb5 : Below w.heap.size X2 (w2.setCell ⟨w.heap.size, 0, none⟩ (.string rest)) := hb4.setCell (p := ⟨w.heap.size, 0, none⟩) (Nat.le_refl _) _
      obtain ⟨w3, hw3⟩ : ∃ w3, w2.setCell ⟨w.heap.size, 0, none⟩ (.string rest) = w3 := ⟨_, rfl⟩
      rw [hw3] at hv5 hI5 hS5 hr5 hk5 hb5 ⊢
      clear hw3
      have hl5 := hk5.same _ _ hl2 rfl
      have hd5 := hk5.same _ _ hd2 rfl
      have hlz := (Array.getElem?_eq_some_iff.1 hl5).1
      have hoth5 : ∀ j, j ≠ w.heap.size + 3 + 1 → (w3.putObj (w.heap.size + 3 + 1) (.loop rc)).heap[j]? = w3.heap[j]? := fun j hj => World.putObj_heap_other hj
      have hB6 : Below w.heap.size w3 (w3.putObj (w.heap.size + 3 + 1) (.loop rc)) := belowK_b (w := w) (Nat.le_refl _) w3 _ _ _ (by omega) hl5 rfl rfl
      have hB7 := (hB2.trans hb5).trans hB6
      have hrcd : (w3.putObj (w.heap.size + 3 + 1) (.loop { { rc with state := .busy } with state := if (none : Option Code).isNone then .ready else .done, pending := none })) = w3.putObj (w.heap.size + 3 + 1) (.loop rc) := by
        have : ({ { rc with state := .busy } with state := if (none : Option Code).isNone then .ready else .done, pending := none } : Loop) = rc := by
          cases rc
          simp at hst hpe ⊢
          exact ⟨hst.symm, hpe.symm⟩
        rw [this]
      refine ⟨_, _, (run_endRound none hl5).trans (by rw [hrcd]; rfl), rfl, ⟨hLd.go hB7, ⟨_, (hoth5 _ (by omega)).trans hv5, ?_⟩, (hoth5 _ (by omega)).trans hS5, (hoth5 _ (by omega)).trans hd5, World.putObj_heap_same hlz, hB7⟩, (hoth5 _ (by omega)).trans hI5⟩
      have hr6 := ownsRow_putObj hr5 (.loop rc) hl5 rfl
      rw [List.length_append, List.length_singleton, List.flatMap_append, List.flatMap_singleton]
      exact hr6
    refine callsIn_of_wp Tryz.func61 rfl trivial ?_ rfl
    simp only [Tryz.ntmps61, List.size_toArray, List.length_cons, List.length_nil, Nat.reduceAdd, Nat.reduceSub, Array.replicate_succ, Array.replicate_zero, List.push_toArray, List.append_toArray, List.nil_append, List.cons_append]
    gi_wp2
    gi_loopw [4] (fun v4 wr => ∃ (f : Nat) (acc : List S26) (s : ByteArray), refs_All.l k f s acc = some R ∧ ASt w (w.heap.size + 1) w.heap.size W.heap.size (W.heap.size + 1) rc acc s wr ∧ Boxed wr (w.heap.size + 1 + 1) 9 (.string s) ∧ acc.length + s.size ≤ s0.size)
      (fun v4 wr => match wr.cell? ⟨w.heap.size + 1 + 1, 0, none⟩ with | some (.string s) => s.size | _ => 0)
    case atStart =>
      obtain ⟨f, hf⟩ := hR
      exact ⟨f, [], s0, hf, hA0, (hb9.block _ b3.lt).trans b3, by simp⟩
    case round =>
      obtain ⟨f, acc, s, hf, hA, hBs, hlen⟩ := hrel
      cases f with
      | zero => cases hf
      | succ f =>
      rw [refs_All.l] at hf
      obtain ⟨⟨t1, t2, t3, t4⟩, hT, hf⟩ := Option.bind_eq_some_iff.1 hf
      dsimp only at hf
      by_cases hn : 0 ≤ t4 ∧ t4 ≤ (s.size : Int)
      case neg => rw [if_neg hn] at hf; cases hf
      rw [if_pos hn] at hf
      have hc := hBs.cell
      have hc9 := Lib.hid hc
      gi_wp2
      refine ⟨trivial, (callsIn_wide.2 (refs_Take.calls k s t1 t2 t3 t4 _ hA.laid hT)).mono ?_⟩
      rintro e W1 ⟨rfl, hb⟩
      have hA1 := hA.go hb
      have hBs1 : Boxed W1 (w.heap.size + 1 + 1) 9 (.string s) := (hb.block _ hBs.lt).trans hBs
      clear hA hBs hb hc
      have hbA : Below W1.heap.size W1 (W1.alloc (.cells #[.string t1, .string t2, .string t3] 26)) := below_alloc (Below.refl _ _) _
      have hBs2 : Boxed (W1.alloc (.cells #[.string t1, .string t2, .string t3] 26)) (w.heap.size + 1 + 1) 9 (.string s) := (hbA.block _ hBs1.lt).trans hBs1
      have hlt3 := hA1.bel.size
      have hr2 := heap_alloc_new W1 (.cells #[.string t1, .string t2, .string t3] 26)
      have hBslt := hBs1.lt
      clear hbA
      have hc2 := hBs2.cell
      have hf2 := hBs2.frozen
      by_cases h0 : t4 = 0
      · rw [if_pos h0] at hf
        subst h0
        cases hf
        have hrest : s.extract (0 : Int).toNat s.size = s := by simp
        have hA3 := (hA1.set (y := s) hLd hBs1 (by omega) (by omega) (by omega)).go (below_alloc (Below.refl _ _) (.cells #[.string t1, .string t2, .string t3] 26))
        rw [hWs] at hA3
        clear hA1 hBs1
        gi_wp2
        refine ⟨(by intro f h; cases h), ?_⟩
        gi_wp2
        refine bodyPost_ret (results_none rfl _ _ _) rfl ?_
        exact ⟨⟨_, rfl⟩, hA3.rcd, rc, hA3⟩
      · rw [if_neg h0] at hf
        have hA3 := (hA1.set (y := s.extract t4.toNat s.size) hLd hBs1 (by omega) (by omega) (by omega)).go (below_alloc (Below.refl _ _) (.cells #[.string t1, .string t2, .string t3] 26))
        have hBs3 := (hBs1.set (.string (s.extract t4.toNat s.size))).alloc (.cells #[.string t1, .string t2, .string t3] 26)
        have hr3 := heap_alloc_new (W1.setCell ⟨w.heap.size + 1 + 1, 0, none⟩ (.string (s.extract t4.toNat s.size))) (.cells #[.string t1, .string t2, .string t3] 26)
        clear hA1 hBs1 hr2
        obtain ⟨fn', tmps', assign', body', hy, hRd⟩ := hround acc ⟨t1, t2, t3⟩ s (s.extract t4.toNat s.size) _ (by omega) hA3 hBs3
        rw [hWs] at hy hRd
        obtain ⟨p0, p1, p2, g0, g1, g2⟩ := row3_facts hr3
        have hc3 := hBs3.cell
        have hq : (t4 == 0) = false := beq_eq_false_iff_ne.2 h0
        gi_wp2
        refine hRd.mono ?_
        rintro e Z ⟨rfl, hA4, hBs4⟩
        gi_wp2
        go_roundw
        case rel => exact ⟨f, _, _, hf, by rw [hWs]; exact hA4, hBs4, by have := hn.2; simp; omega⟩
        case measure => have := hn.2; simp [hBs4.cell, hc9.out]; omega
  case done =>
    rintro rc W2 ⟨rc2, hA⟩ hl
    have hoth : ∀ j, j ≠ W.heap.size + 1 → (W2.putObj (W.heap.size + 1) (.loop { rc with state := .exhausted })).heap[j]? = W2.heap[j]? := fun j hj => World.putObj_heap_other hj
    obtain ⟨v, hv, hrow⟩ := hA.box
    have hrow2 := ownsRow_putObj hrow (.loop { rc with state := .exhausted }) hl rfl
    have hv2 : Boxed (W2.putObj (W.heap.size + 1) (.loop { rc with state := .exhausted })) (w.heap.size + 1) 22 v := (hoth _ (by omega)).trans hv
    have hS2 : Boxed (W2.putObj (W.heap.size + 1) (.loop { rc with state := .exhausted })) w.heap.size 9 (.string R.2) := (hoth _ (by omega)).trans hA.boxS
    have hd2 := (hoth W.heap.size (by omega)).trans hA.dfr
    have hB2 := hA.bel.trans (belowK_b (w := w) (Nat.le_refl _) W2 (W.heap.size + 1) (.loop rc) (.loop { rc with state := .exhausted }) (by omega) hl rfl rfl)
    obtain ⟨W3, hW3⟩ : ∃ W3, W3 = W2.putObj (W.heap.size + 1) (.loop { rc with state := .exhausted }) := ⟨_, rfl⟩
    rw [← hW3] at hrow2 hv2 hS2 hd2 hB2
    rw [show (W2.putObj (W.heap.size + 1) (.loop { rc with state := .exhausted })) = W3 from hW3.symm]
    clear hW3 hrow hv hoth
    have hvc := hv2.cell
    have hsc := hS2.cell
    gi_wp2
    gi_region
    gi_wp2
    refine ⟨by simp, .inl ⟨_, _, rfl, run_takeDeferred hd2, ?_⟩⟩
    exact ⟨_, results_tmp2 rfl _ _ _, v, rfl, refs_R (ownsRow_putObj hrow2 _ hd2 rfl), (below_drew1 hB2).trans (belowK_b (w := w) (Nat.le_refl _) W3.drew W.heap.size _ (.deferred none) (by omega) hd2 rfl rfl)⟩
/-- refs.All in plain words. -/
def refs_All.f (k : Nat) (a0 : ByteArray) : Option (List S26 × ByteArray) := if a0.size ≤ 1048576 then refs_All.l k k a0 [] else none
theorem refs_All.mono_l : ∀ (f k : Nat) (s : ByteArray) (acc : List S26) (r), refs_All.l k f s acc = some r → refs_All.l (k + 1) (f + 1) s acc = some r
  | 0, _, _, _, _, h => by cases h
  | f + 1, k, s, acc, r, h => by
    rw [refs_All.l] at h
    obtain ⟨t, hT, h⟩ := Option.bind_eq_some_iff.1 h
    rw [refs_All.l, refs_Take.mono s k t hT]
    show (if _ then _ else _) = _
    by_cases hn : 0 ≤ t.2.2.2 ∧ t.2.2.2 ≤ (s.size : Int)
    · rw [if_pos hn] at h ⊢
      by_cases h0 : t.2.2.2 = 0
      · rw [if_pos h0] at h ⊢
        exact h
      · rw [if_neg h0] at h ⊢
        exact refs_All.mono_l f k _ _ _ h
    · rw [if_neg hn] at h
      cases h
theorem refs_All.mono : ∀ a0 k, LeO (refs_All.f k a0) (refs_All.f (k + 1) a0) := by
  intro a0 k r h
  unfold refs_All.f at h ⊢
  by_cases hs : a0.size ≤ 1048576
  · rw [if_pos hs] at h ⊢
    exact refs_All.mono_l k k _ _ _ h
  · rw [if_neg hs] at h
    cases h
theorem refs_All.calls (k : Nat) (a0 : ByteArray) (r1 : List S26) (r2 : ByteArray) (w : World) (hLd : Laid w) (h : refs_All.f k a0 = some (r1, r2)) :
    Calls Tryz.prog 17 #[.string a0] w fun e w' => ∃ v0_, e = .returned (.tuple #[v0_, .string r2]) ∧ Kd.R k26 26 w' w.heap.size (fun _ => True) v0_ r1 ∧ Below w.heap.size w w' := by
  unfold refs_All.f at h
  by_cases hs : a0.size ≤ 1048576
  · rw [if_pos hs] at h
    exact all_walk k a0 (r1, r2) w hLd hs ⟨k, h⟩
  · rw [if_neg hs] at h
    cases h
end Go.Proofs.YtekifcbokdidlaaGreatDoor.PA

namespace Go.Proofs.YtekifcbokdidlaaGreatDoor.PA
open Go.RowKit Go.Proofs.YtekifcbokdidlaaGreatDoorW.PrintWords Go.Proofs.YtekifcbokdidlaaGreatDoorW.PrintLast Go.Proofs.YtekifcbokdidlaaGreatDoorW.PrintMore
attribute [local go_sem] max2_int min2_int max_two min_two max_three min_three max_four min_four   -- for this text's walks alone
set_option linter.unusedVariables false
set_option linter.unusedSimpArgs false

/-! ### incipitref03_among: function 95 -/
def incipitref03_among.l0 : Nat → Int → List Int → Int → Option (Bool)
  | 0, _, _, _ => none
  | k + 1, x0, x1, x5 => if (wrap64 (x5 + 1)) < (x1.length : Int) then (if 0 ≤ x5 then (if x5 < (x1.length : Int) then (if (rd x1 x5) ≤ x0 then (if 0 ≤ (wrap64 (x5 + 1)) then (if x0 ≤ (rd x1 (wrap64 (x5 + 1))) then (some true) else (incipitref03_among.l0 k x0 x1 (wrap64 (x5 + 2)))) else (none)) else (incipitref03_among.l0 k x0 x1 (wrap64 (x5 + 2)))) else (none)) else (none)) else (some false)
def incipitref03_among.f (k : Nat) (a0 : Int) (l1 : List Int) : Option (Bool) := incipitref03_among.l0 k a0 l1 0
set_option maxHeartbeats 8000000 in
set_option maxRecDepth 100000 in
theorem incipitref03_among.calls (k : Nat) (a0 : Int) (A1 : Option Addr) (c1 : Nat) (l1 : List Int) (r : Bool) (w : World) (hr1 : Kd.C (Kd.int .i32) w A1 l1.length l1) (hc1 : l1.length ≤ c1) (h : incipitref03_among.f k a0 l1 = some r) :
    Calls Tryz.prog 95 #[.int .i32 a0, .slice A1 l1.length c1] w fun e w' => e = .returned (.bool r) ∧ Drawn0 w w' := by
  have HR1 := Aside0.mk hr1
  have HC1 := Aside0.mk hc1
  clear hr1 hc1
  have H : (incipitref03_among.l0 k a0 l1 0) = some r := h
  clear h
  have H' := Aside0.mk H
  clear H
  go_enter Tryz.func95, Tryz.ntmps95
  go_wp2
  go_loopg [5] k (fun kq v5 w' => ∃ (x5_1 : Int), v5 = .int .i64 x5_1 ∧ Aside0 (incipitref03_among.l0 kq a0 l1 x5_1 = some r) ∧ Aside0 (kq ≤ k) ∧ Drawn0 w w')
  case atStart => exact ⟨(0), (by first | rfl | (simp; done) | (simp [*]; done)), H', ⟨Nat.le_refl _⟩, by repeat (first | exact Drawn0.refl _ | apply Drawn0.step)⟩
  case round =>
    clear H'
    try clear c1
    try clear p2
    obtain ⟨x5_1, rfl, HA, HK1, ⟨m1, rfl⟩⟩ := hrel
    cases gk with
    | zero => exact absurd HA.out (by simp [incipitref03_among.l0])
    | succ k1 =>
      have H := HA.out
      clear HA
      simp only [incipitref03_among.l0] at H
      by_cases c3 : (wrap64 (x5_1 + 1)) < (l1.length : Int)
      · rw [if_pos c3] at H
        have c3b0 : decide ((wrap64 (x5_1 + 1)) < (l1.length : Int)) = true := decide_eq_true c3
        clear c3
        by_cases c4 : 0 ≤ x5_1
        · rw [if_pos c4] at H
          have c4b0 : decide (0 ≤ x5_1) = true := decide_eq_true c4
          clear c4
          by_cases c5 : x5_1 < (l1.length : Int)
          · rw [if_pos c5] at H
            have c5b0 : decide (x5_1 < (l1.length : Int)) = true := decide_eq_true c5
            clear c5
            by_cases c6 : (rd l1 x5_1) ≤ a0
            · rw [if_pos c6] at H
              have c6b0 : decide ((rd l1 x5_1) ≤ a0) = true := decide_eq_true c6
              clear c6
              obtain ⟨ji7, hji7⟩ : ∃ j_ : Int, (wrap64 (x5_1 + 1)) = j_ := ⟨_, rfl⟩
              replace H : (if 0 ≤ (ji7) then (if a0 ≤ (rd l1 (ji7)) then (some true) else (incipitref03_among.l0 k1 a0 l1 (wrap64 (x5_1 + 2)))) else (none)) = some r := by first | (rw [hji7] at H; exact H) | (simp only [hji7] at H ⊢; exact H)
              (try rw [hji7] at c3b0)
              have hji7w : (IntKind.i64.wrap (x5_1 + 1)) = ji7 := (i64_w _).trans hji7
              by_cases c8 : 0 ≤ (ji7)
              · rw [if_pos c8] at H
                have c8b0 : decide (0 ≤ (ji7)) = true := decide_eq_true c8
                clear c8
                by_cases c9 : a0 ≤ (rd l1 (ji7))
                · rw [if_pos c9] at H
                  have c9b0 : decide (a0 ≤ (rd l1 (ji7))) = true := decide_eq_true c9
                  clear c9
                  obtain rfl := Option.some.inj H
                  have p150 : 0 ≤ (x5_1 : Int) := of_decide_eq_true (by first | (with_reducible assumption) | assumption)
                  have q150 : x5_1 < (l1.length : Int) := of_decide_eq_true (by first | (with_reducible assumption) | assumption)
                  obtain ⟨ad150, e150, hx150_0⟩ := Kd.at_int HR1.out x5_1 p150 q150
                  cases e150
                  replace p150 := eq_true p150
                  replace q150 := eq_true q150
                  have p151 : 0 ≤ ((ji7) : Int) := of_decide_eq_true (by first | (with_reducible assumption) | assumption)
                  have q151 : (ji7) < (l1.length : Int) := of_decide_eq_true (by first | (with_reducible assumption) | assumption)
                  obtain ⟨ad151, e151, hx151_0⟩ := Kd.at_int HR1.out (ji7) p151 q151
                  obtain rfl : ad150 = ad151 := (by injection e151)
                  replace p151 := eq_true p151
                  replace q151 := eq_true q151
                  go_wp2
                  go_ret
                  exact ⟨by first | rfl | (simp; done) | (simp only [← hji7] <;> (first | rfl | simp)) | (simp [*]; done), by repeat (first | exact Drawn0.refl _ | apply Drawn0.step)⟩
                · rw [if_neg c9] at H
                  have c9b0 : decide (a0 ≤ (rd l1 (ji7))) = false := decide_eq_false c9
                  clear c9
                  have H' := Aside0.mk H
                  clear H
                  have p150 : 0 ≤ (x5_1 : Int) := of_decide_eq_true (by first | (with_reducible assumption) | assumption)
                  have q150 : x5_1 < (l1.length : Int) := of_decide_eq_true (by first | (with_reducible assumption) | assumption)
                  obtain ⟨ad150, e150, hx150_0⟩ := Kd.at_int HR1.out x5_1 p150 q150
                  cases e150
                  replace p150 := eq_true p150
                  replace q150 := eq_true q150
                  have p151 : 0 ≤ ((ji7) : Int) := of_decide_eq_true (by first | (with_reducible assumption) | assumption)
                  have q151 : (ji7) < (l1.length : Int) := of_decide_eq_true (by first | (with_reducible assumption) | assumption)
                  obtain ⟨ad151, e151, hx151_0⟩ := Kd.at_int HR1.out (ji7) p151 q151
                  obtain rfl : ad150 = ad151 := (by injection e151)
                  replace p151 := eq_true p151
                  replace q151 := eq_true q151
                  go_wp2
                  go_roundg k1
                  case measure => have := HK1.out; omega
                  case rel => exact ⟨(wrap64 (x5_1 + 2)), (by first | rfl | (simp; done) | (simp [*]; done)), H', ⟨by have := HK1.out; omega⟩, by repeat (first | exact Drawn0.refl _ | apply Drawn0.step)⟩
              · rw [if_neg c8] at H
                exact absurd H (by simp)
            · rw [if_neg c6] at H
              have c6b0 : decide ((rd l1 x5_1) ≤ a0) = false := decide_eq_false c6
              clear c6
              have H' := Aside0.mk H
              clear H
              have p150 : 0 ≤ (x5_1 : Int) := of_decide_eq_true (by first | (with_reducible assumption) | assumption)
              have q150 : x5_1 < (l1.length : Int) := of_decide_eq_true (by first | (with_reducible assumption) | assumption)
              obtain ⟨ad150, e150, hx150_0⟩ := Kd.at_int HR1.out x5_1 p150 q150
              cases e150
              replace p150 := eq_true p150
              replace q150 := eq_true q150
              go_wp2
              go_roundg k1
              case measure => have := HK1.out; omega
              case rel => exact ⟨(wrap64 (x5_1 + 2)), (by first | rfl | (simp; done) | (simp [*]; done)), H', ⟨by have := HK1.out; omega⟩, by repeat (first | exact Drawn0.refl _ | apply Drawn0.step)⟩
          · rw [if_neg c5] at H
            exact absurd H (by simp)
        · rw [if_neg c4] at H
          exact absurd H (by simp)
      · rw [if_neg c3] at H
        have c3b0 : decide ((wrap64 (x5_1 + 1)) < (l1.length : Int)) = false := decide_eq_false c3
        clear c3
        obtain rfl := Option.some.inj H
        go_wp2
        go_ret
        exact ⟨by first | rfl | (simp; done) | (simp [*]; done), by repeat (first | exact Drawn0.refl _ | apply Drawn0.step)⟩

/-! ### incipitref03_fold: function 70 -/
def incipitref03_fold.j0 : Nat → Int → Bool → Option (ByteArray)
  | 0, _, _ => none
  | k + 1, x0, x8 => if x8 = true then (some (⟨#[115, 115]⟩ : ByteArray)) else ((incipitref03_among.f k x0 (([65, 90, 192, 214, 216, 222, 913, 929, 931, 939, 1040, 1071] : List Int))).bind fun t155 => (if t155 = true then (some (Go.Utf8.encode (wrap32 (x0 + 32)))) else ((incipitref03_among.f k x0 (([1024, 1039] : List Int))).bind fun t159 => (if t159 = true then (some (Go.Utf8.encode (wrap32 (x0 + 80)))) else (if x0 = 962 then (some (⟨#[207, 131]⟩ : ByteArray)) else (some (Go.Utf8.encode x0)))))))
def incipitref03_fold.f (k : Nat) (a0 : Int) : Option (ByteArray) := if a0 = 223 then (incipitref03_fold.j0 k a0 true) else (incipitref03_fold.j0 k a0 (a0 == 7838))
set_option maxHeartbeats 8000000 in
set_option maxRecDepth 100000 in
theorem incipitref03_fold.calls (k : Nat) (a0 : Int) (r : ByteArray) (w : World) (h : incipitref03_fold.f k a0 = some r) :
    Calls Tryz.prog 70 #[.int .i32 a0] w fun e w' => e = .returned (.string r) ∧ Below w.heap.size w w' := by
  have HB := Aside0.mk (Below.refl w.heap.size w)
  have H : (if a0 = 223 then (incipitref03_fold.j0 k a0 true) else (incipitref03_fold.j0 k a0 (a0 == 7838))) = some r := h
  clear h
  have HC2 := Aside0.mk H
  clear H
  go_enter Tryz.func70, Tryz.ntmps70
  go_upto_region 1 with (fail)
  go_cut [8] (fun v8 wc => ∃ (kq : Nat) (x8_1 : Bool), v8 = .bool x8_1 ∧ Aside0 (incipitref03_fold.j0 kq a0 x8_1 = some r) ∧ Aside0 (kq ≤ k) ∧ Aside0 (Below w.heap.size w wc))
  case first =>
    have H := HC2.out
    clear HC2
    by_cases c3 : a0 = 223
    · rw [if_pos c3] at H
      have c3b0 : (a0 == 223) = true := beq_iff_eq.mpr c3
      have c3b1 : (a0 != 223) = false := bne_eq_false_iff_eq.mpr c3
      clear c3
      (first | rw [c3b0] | (simp only [i64_w, i32_w]; rw [c3b0]) | skip)
      have H' := Aside0.mk H
      clear H
      go_wp2
      go_meet
      case rel => exact ⟨_, (true), (by first | rfl | (simp; done) | (simp [*]; done)), H', ⟨by first | omega | exact Nat.le_refl _⟩, ⟨by repeat (first | (with_reducible first | exact HB.out | apply below_alloc | apply pw_below_drewN | apply below_drew1) | exact HB.out)⟩⟩
    · rw [if_neg c3] at H
      have c3b0 : (a0 == 223) = false := beq_eq_false_iff_ne.mpr c3
      have c3b1 : (a0 != 223) = true := bne_iff_ne.mpr c3
      (first | rw [c3b0] | (simp only [i64_w, i32_w]; rw [c3b0]) | skip)
      have H' := Aside0.mk H
      clear H
      go_wp2
      go_meet
      case rel => exact ⟨_, ((a0 == 7838)), (by first | rfl | (simp; done) | (simp [*]; done)), H', ⟨by first | omega | exact Nat.le_refl _⟩, ⟨by repeat (first | (with_reducible first | exact HB.out | apply below_alloc | apply pw_below_drewN | apply below_drew1) | exact HB.out)⟩⟩
  case rest =>
    clear HC2
    try clear p2
    try clear c3
    try clear c3b0
    try clear c3b1
    obtain ⟨kq, x8_1, rfl, HA, HJ1, HB⟩ := hcut
    cases kq with
    | zero => exact absurd HA.out (by simp [incipitref03_fold.j0])
    | succ kj1 =>
      have H := HA.out
      clear HA
      simp only [incipitref03_fold.j0] at H
      by_cases c4 : x8_1 = true
      · subst c4
        have H1 : (some (⟨#[115, 115]⟩ : ByteArray)) = some r := by rw [if_pos rfl] at H; exact H
        clear H
        have H := H1
        clear H1
        obtain rfl := Option.some.inj H
        go_wp2
        go_ret
        exact ⟨by first | rfl | (simp [errW_none, errW_some] <;> rfl) | (simp [*, errW_none, errW_some] <;> rfl), by repeat (first | (with_reducible first | exact HB.out | apply below_alloc | apply pw_below_drewN | apply below_drew1) | exact HB.out)⟩
      · replace c4 := Bool.eq_false_iff.mpr c4
        subst c4
        have H1 : ((incipitref03_among.f kj1 a0 (([65, 90, 192, 214, 216, 222, 913, 929, 931, 939, 1040, 1071] : List Int))).bind fun t155 => (if t155 = true then (some (Go.Utf8.encode (wrap32 (a0 + 32)))) else ((incipitref03_among.f kj1 a0 (([1024, 1039] : List Int))).bind fun t159 => (if t159 = true then (some (Go.Utf8.encode (wrap32 (a0 + 80)))) else (if a0 = 962 then (some (⟨#[207, 131]⟩ : ByteArray)) else (some (Go.Utf8.encode a0))))))) = some r := by rw [if_neg (show ¬ (false = true) by decide)] at H; exact H
        clear H
        have H := H1
        clear H1
        obtain ⟨y152, hy152⟩ : ∃ y_ : List Int, y_ = (([65, 90, 192, 214, 216, 222, 913, 929, 931, 939, 1040, 1071] : List Int)) := ⟨_, rfl⟩
        replace H : ((incipitref03_among.f kj1 a0 y152).bind fun t155 => (if t155 = true then (some (Go.Utf8.encode (wrap32 (a0 + 32)))) else ((incipitref03_among.f kj1 a0 (([1024, 1039] : List Int))).bind fun t159 => (if t159 = true then (some (Go.Utf8.encode (wrap32 (a0 + 80)))) else (if a0 = 962 then (some (⟨#[207, 131]⟩ : ByteArray)) else (some (Go.Utf8.encode a0))))))) = some r := by first | (rw [hy152]; with_reducible exact H) | (have H2_ := (Option.bind_some _ _).symm.trans H; rw [hy152]; with_reducible exact H2_) | (have H2_ := (Option.bind_some _ _).symm.trans H; with_reducible exact H2_) | with_reducible exact H | (rw [hy152]; exact H) | exact H
        have Ny152 := Aside0.mk hy152
        clear hy152
        replace H := Option.bind_eq_some_iff.mp H
        obtain ⟨t155, A50, H⟩ := H
        replace H : (if t155 = true then (some (Go.Utf8.encode (wrap32 (a0 + 32)))) else ((incipitref03_among.f kj1 a0 (([1024, 1039] : List Int))).bind fun t159 => (if t159 = true then (some (Go.Utf8.encode (wrap32 (a0 + 80)))) else (if a0 = 962 then (some (⟨#[207, 131]⟩ : ByteArray)) else (some (Go.Utf8.encode a0)))))) = some r := H
        have A5 := Aside0.mk A50
        clear A50
        by_cases c6 : t155 = true
        · subst c6
          have H1 : (some (Go.Utf8.encode (wrap32 (a0 + 32)))) = some r := by rw [if_pos rfl] at H; exact H
          clear H
          have H := H1
          clear H1
          obtain rfl := Option.some.inj H
          go_wp2_with (first | ((with_reducible refine gate_dst (N := 10) rfl ?_); refine Kd.R_lit (Kd.int .i32) _ 21 ?hg (N := 10) ?hd (xs := ([65, 90, 192, 214, 216, 222, 913, 929, 931, 939, 1040, 1071] : List Int)) (inner := [.int .i32 65, .int .i32 90, .int .i32 192, .int .i32 214, .int .i32 216, .int .i32 222, .int .i32 913, .int .i32 929, .int .i32 931, .int .i32 939, .int .i32 1040, .int .i32 1071]) (ok := fun _ => True) (okp := fun _ => True) ?hr ?hp (fun _ hk => hk) trivial (Below.refl _ _) (Nat.le_refl _) (by simp) ?_; (case hd => rfl); (case hg => rfl); (case hr => first | (go_simp; done) | (go_simp; rfl)); (case hp => exact (Reps.one (show Kd.M (Kd.int .i32) _ _ _ 65 [.int .i32 65] from rfl) (Reps.one (show Kd.M (Kd.int .i32) _ _ _ 90 [.int .i32 90] from rfl) (Reps.one (show Kd.M (Kd.int .i32) _ _ _ 192 [.int .i32 192] from rfl) (Reps.one (show Kd.M (Kd.int .i32) _ _ _ 214 [.int .i32 214] from rfl) (Reps.one (show Kd.M (Kd.int .i32) _ _ _ 216 [.int .i32 216] from rfl) (Reps.one (show Kd.M (Kd.int .i32) _ _ _ 222 [.int .i32 222] from rfl) (Reps.one (show Kd.M (Kd.int .i32) _ _ _ 913 [.int .i32 913] from rfl) (Reps.one (show Kd.M (Kd.int .i32) _ _ _ 929 [.int .i32 929] from rfl) (Reps.one (show Kd.M (Kd.int .i32) _ _ _ 931 [.int .i32 931] from rfl) (Reps.one (show Kd.M (Kd.int .i32) _ _ _ 939 [.int .i32 939] from rfl) (Reps.one (show Kd.M (Kd.int .i32) _ _ _ 1040 [.int .i32 1040] from rfl) (Reps.one (show Kd.M (Kd.int .i32) _ _ _ 1071 [.int .i32 1071] from rfl) (Reps.none _ _)))))))))))))); intro v153 w7 ho8 hb hg_ hnew_; clear hg_ hnew_; (first | rw [← Ny152.out] at ho8 | (simp only [Int.reduceToNat] at ho8; rw [← Ny152.out] at ho8)); have n0_ := Aside0.mk (Kd.R_lower ho8 (below_size (by repeat (first | (with_reducible first | exact HB.out | apply below_alloc | apply pw_below_drewN | apply below_drew1) | exact HB.out)))); have n1_ := Aside0.mk (below_step (by repeat (first | (with_reducible first | exact HB.out | apply below_alloc | apply pw_below_drewN | apply below_drew1) | exact HB.out)) hb); clear HB; have HO154 := n0_; have HB := n1_; clear n0_ n1_; clear hb ho8; obtain ⟨Ao9, co9, eo9⟩ := Kd.R_slice HO154.out; subst eo9) | ((with_reducible refine gate_callee (f := 95) rfl ?_); refine goesL_ (some 11) rfl rfl Tryz.func95 (by kernel_rfl) rfl #[.int .i32 a0, .slice Ao9 y152.length co9] rfl (by (try simp only [List.map_toArray, List.map_cons, List.map_nil]); first | done | rfl | (simp only [List.length_drop, List.length_take]; rfl)) ?_; (with_reducible refine (incipitref03_among.calls kj1 a0 _ _ y152 true _ ?side1 ?side2 A5.out).mono ?_); (case side1 => repeat (first | exact (Kd.R_reads' HO154.out).2.2 | (with_reducible refine Kd.C_alloc ?_ _) | (with_reducible refine Kd.C_drewN ?_ _) | (with_reducible refine Kd.C_drew ?_))); (case side2 => exact (Kd.R_reads' HO154.out).2.1); rintro e w' ⟨rfl, ⟨nd, rfl⟩⟩; refine ⟨_, rfl, ?_⟩))
          go_ret
          exact ⟨by first | rfl | (simp [errW_none, errW_some] <;> rfl) | (simp [*, errW_none, errW_some] <;> rfl), by repeat (first | (with_reducible first | exact HB.out | apply below_alloc | apply pw_below_drewN | apply below_drew1) | exact HB.out)⟩
        · replace c6 := Bool.eq_false_iff.mpr c6
          subst c6
          have H1 : ((incipitref03_among.f kj1 a0 (([1024, 1039] : List Int))).bind fun t159 => (if t159 = true then (some (Go.Utf8.encode (wrap32 (a0 + 80)))) else (if a0 = 962 then (some (⟨#[207, 131]⟩ : ByteArray)) else (some (Go.Utf8.encode a0))))) = some r := by rw [if_neg (show ¬ (false = true) by decide)] at H; exact H
          clear H
          have H := H1
          clear H1
          obtain ⟨y156, hy156⟩ : ∃ y_ : List Int, y_ = (([1024, 1039] : List Int)) := ⟨_, rfl⟩
          replace H : ((incipitref03_among.f kj1 a0 y156).bind fun t159 => (if t159 = true then (some (Go.Utf8.encode (wrap32 (a0 + 80)))) else (if a0 = 962 then (some (⟨#[207, 131]⟩ : ByteArray)) else (some (Go.Utf8.encode a0))))) = some r := by first | (rw [hy156]; with_reducible exact H) | (have H2_ := (Option.bind_some _ _).symm.trans H; rw [hy156]; with_reducible exact H2_) | (have H2_ := (Option.bind_some _ _).symm.trans H; with_reducible exact H2_) | with_reducible exact H | (rw [hy156]; exact H) | exact H
          have Ny156 := Aside0.mk hy156
          clear hy156
          replace H := Option.bind_eq_some_iff.mp H
          obtain ⟨t159, A100, H⟩ := H
          replace H : (if t159 = true then (some (Go.Utf8.encode (wrap32 (a0 + 80)))) else (if a0 = 962 then (some (⟨#[207, 131]⟩ : ByteArray)) else (some (Go.Utf8.encode a0)))) = some r := H
          have A10 := Aside0.mk A100
          clear A100
          by_cases c11 : t159 = true
          · subst c11
            have H1 : (some (Go.Utf8.encode (wrap32 (a0 + 80)))) = some r := by rw [if_pos rfl] at H; exact H
            clear H
            have H := H1
            clear H1
            obtain rfl := Option.some.inj H
            go_wp2_with (first | ((with_reducible refine gate_dst (N := 10) rfl ?_); refine Kd.R_lit (Kd.int .i32) _ 21 ?hg (N := 10) ?hd (xs := ([65, 90, 192, 214, 216, 222, 913, 929, 931, 939, 1040, 1071] : List Int)) (inner := [.int .i32 65, .int .i32 90, .int .i32 192, .int .i32 214, .int .i32 216, .int .i32 222, .int .i32 913, .int .i32 929, .int .i32 931, .int .i32 939, .int .i32 1040, .int .i32 1071]) (ok := fun _ => True) (okp := fun _ => True) ?hr ?hp (fun _ hk => hk) trivial (Below.refl _ _) (Nat.le_refl _) (by simp) ?_; (case hd => rfl); (case hg => rfl); (case hr => first | (go_simp; done) | (go_simp; rfl)); (case hp => exact (Reps.one (show Kd.M (Kd.int .i32) _ _ _ 65 [.int .i32 65] from rfl) (Reps.one (show Kd.M (Kd.int .i32) _ _ _ 90 [.int .i32 90] from rfl) (Reps.one (show Kd.M (Kd.int .i32) _ _ _ 192 [.int .i32 192] from rfl) (Reps.one (show Kd.M (Kd.int .i32) _ _ _ 214 [.int .i32 214] from rfl) (Reps.one (show Kd.M (Kd.int .i32) _ _ _ 216 [.int .i32 216] from rfl) (Reps.one (show Kd.M (Kd.int .i32) _ _ _ 222 [.int .i32 222] from rfl) (Reps.one (show Kd.M (Kd.int .i32) _ _ _ 913 [.int .i32 913] from rfl) (Reps.one (show Kd.M (Kd.int .i32) _ _ _ 929 [.int .i32 929] from rfl) (Reps.one (show Kd.M (Kd.int .i32) _ _ _ 931 [.int .i32 931] from rfl) (Reps.one (show Kd.M (Kd.int .i32) _ _ _ 939 [.int .i32 939] from rfl) (Reps.one (show Kd.M (Kd.int .i32) _ _ _ 1040 [.int .i32 1040] from rfl) (Reps.one (show Kd.M (Kd.int .i32) _ _ _ 1071 [.int .i32 1071] from rfl) (Reps.none _ _)))))))))))))); intro v153 w12 ho13 hb hg_ hnew_; clear hg_ hnew_; (first | rw [← Ny152.out] at ho13 | (simp only [Int.reduceToNat] at ho13; rw [← Ny152.out] at ho13)); have n0_ := Aside0.mk (Kd.R_lower ho13 (below_size (by repeat (first | (with_reducible first | exact HB.out | apply below_alloc | apply pw_below_drewN | apply below_drew1) | exact HB.out)))); have n1_ := Aside0.mk (below_step (by repeat (first | (with_reducible first | exact HB.out | apply below_alloc | apply pw_below_drewN | apply below_drew1) | exact HB.out)) hb); clear HB; have HO154 := n0_; have HB := n1_; clear n0_ n1_; clear hb ho13; obtain ⟨Ao14, co14, eo14⟩ := Kd.R_slice HO154.out; subst eo14) | ((with_reducible refine gate_callee (f := 95) rfl ?_); refine goesL_ (some 11) rfl rfl Tryz.func95 (by kernel_rfl) rfl #[.int .i32 a0, .slice Ao14 y152.length co14] rfl (by (try simp only [List.map_toArray, List.map_cons, List.map_nil]); first | done | rfl | (simp only [List.length_drop, List.length_take]; rfl)) ?_; (with_reducible refine (incipitref03_among.calls kj1 a0 _ _ y152 false _ ?side1 ?side2 A5.out).mono ?_); (case side1 => repeat (first | exact (Kd.R_reads' HO154.out).2.2 | (with_reducible refine Kd.C_alloc ?_ _) | (with_reducible refine Kd.C_drewN ?_ _) | (with_reducible refine Kd.C_drew ?_))); (case side2 => exact (Kd.R_reads' HO154.out).2.1); rintro e w' ⟨rfl, ⟨nd, rfl⟩⟩; refine ⟨_, rfl, ?_⟩) | ((with_reducible refine gate_dst (N := 16) rfl ?_); refine Kd.R_lit (Kd.int .i32) _ 21 ?hg (N := 16) ?hd (xs := ([1024, 1039] : List Int)) (inner := [.int .i32 1024, .int .i32 1039]) (ok := fun _ => True) (okp := fun _ => True) ?hr ?hp (fun _ hk => hk) trivial (Below.refl _ _) (Nat.le_refl _) (by simp) ?_; (case hd => rfl); (case hg => rfl); (case hr => first | (go_simp; done) | (go_simp; rfl)); (case hp => exact (Reps.one (show Kd.M (Kd.int .i32) _ _ _ 1024 [.int .i32 1024] from rfl) (Reps.one (show Kd.M (Kd.int .i32) _ _ _ 1039 [.int .i32 1039] from rfl) (Reps.none _ _)))); intro v157 w15 ho16 hb hg_ hnew_; clear hg_ hnew_; (first | rw [← Ny156.out] at ho16 | (simp only [Int.reduceToNat] at ho16; rw [← Ny156.out] at ho16)); have n0_ := Aside0.mk (Kd.R_elder' (by (with_reducible repeat (first | apply Kd.R_alloc | apply Kd.R_drewN | apply Kd.R_drew)); exact HO154.out) (Kd.R_base ho16) hb); have n1_ := Aside0.mk (Kd.R_lower (Kd.R_new' ho16 (Kd.R_lt (by (with_reducible repeat (first | apply Kd.R_alloc | apply Kd.R_drewN | apply Kd.R_drew)); exact HO154.out))) (below_size (by repeat (first | (with_reducible first | exact HB.out | apply below_alloc | apply pw_below_drewN | apply below_drew1) | exact HB.out)))); have n2_ := Aside0.mk (below_step (by repeat (first | (with_reducible first | exact HB.out | apply below_alloc | apply pw_below_drewN | apply below_drew1) | exact HB.out)) hb); clear HO154; clear HB; have HO154 := n0_; have HO158 := n1_; have HB := n2_; clear n0_ n1_ n2_; clear hb ho16; obtain ⟨Ao17, co17, eo17⟩ := Kd.R_slice HO158.out; subst eo17) | ((with_reducible refine gate_callee (f := 95) rfl ?_); refine goesL_ (some 17) rfl rfl Tryz.func95 (by kernel_rfl) rfl #[.int .i32 a0, .slice Ao17 y156.length co17] rfl (by (try simp only [List.map_toArray, List.map_cons, List.map_nil]); first | done | rfl | (simp only [List.length_drop, List.length_take]; rfl)) ?_; (with_reducible refine (incipitref03_among.calls kj1 a0 _ _ y156 true _ ?side1 ?side2 A10.out).mono ?_); (case side1 => repeat (first | exact (Kd.R_reads' HO158.out).2.2 | (with_reducible refine Kd.C_alloc ?_ _) | (with_reducible refine Kd.C_drewN ?_ _) | (with_reducible refine Kd.C_drew ?_))); (case side2 => exact (Kd.R_reads' HO158.out).2.1); rintro e w' ⟨rfl, ⟨nd, rfl⟩⟩; refine ⟨_, rfl, ?_⟩))
            go_ret
            exact ⟨by first | rfl | (simp [errW_none, errW_some] <;> rfl) | (simp [*, errW_none, errW_some] <;> rfl), by repeat (first | (with_reducible first | exact HB.out | apply below_alloc | apply pw_below_drewN | apply below_drew1) | exact HB.out)⟩
          · replace c11 := Bool.eq_false_iff.mpr c11
            subst c11
            have H1 : (if a0 = 962 then (some (⟨#[207, 131]⟩ : ByteArray)) else (some (Go.Utf8.encode a0))) = some r := by rw [if_neg (show ¬ (false = true) by decide)] at H; exact H
            clear H
            have H := H1
            clear H1
            by_cases c18 : a0 = 962
            · rw [if_pos c18] at H
              have c18b0 : (a0 == 962) = true := beq_iff_eq.mpr c18
              have c18b1 : (a0 != 962) = false := bne_eq_false_iff_eq.mpr c18
              clear c18
              obtain rfl := Option.some.inj H
              go_wp2_with (first | ((with_reducible refine gate_dst (N := 10) rfl ?_); refine Kd.R_lit (Kd.int .i32) _ 21 ?hg (N := 10) ?hd (xs := ([65, 90, 192, 214, 216, 222, 913, 929, 931, 939, 1040, 1071] : List Int)) (inner := [.int .i32 65, .int .i32 90, .int .i32 192, .int .i32 214, .int .i32 216, .int .i32 222, .int .i32 913, .int .i32 929, .int .i32 931, .int .i32 939, .int .i32 1040, .int .i32 1071]) (ok := fun _ => True) (okp := fun _ => True) ?hr ?hp (fun _ hk => hk) trivial (Below.refl _ _) (Nat.le_refl _) (by simp) ?_; (case hd => rfl); (case hg => rfl); (case hr => first | (go_simp; done) | (go_simp; rfl)); (case hp => exact (Reps.one (show Kd.M (Kd.int .i32) _ _ _ 65 [.int .i32 65] from rfl) (Reps.one (show Kd.M (Kd.int .i32) _ _ _ 90 [.int .i32 90] from rfl) (Reps.one (show Kd.M (Kd.int .i32) _ _ _ 192 [.int .i32 192] from rfl) (Reps.one (show Kd.M (Kd.int .i32) _ _ _ 214 [.int .i32 214] from rfl) (Reps.one (show Kd.M (Kd.int .i32) _ _ _ 216 [.int .i32 216] from rfl) (Reps.one (show Kd.M (Kd.int .i32) _ _ _ 222 [.int .i32 222] from rfl) (Reps.one (show Kd.M (Kd.int .i32) _ _ _ 913 [.int .i32 913] from rfl) (Reps.one (show Kd.M (Kd.int .i32) _ _ _ 929 [.int .i32 929] from rfl) (Reps.one (show Kd.M (Kd.int .i32) _ _ _ 931 [.int .i32 931] from rfl) (Reps.one (show Kd.M (Kd.int .i32) _ _ _ 939 [.int .i32 939] from rfl) (Reps.one (show Kd.M (Kd.int .i32) _ _ _ 1040 [.int .i32 1040] from rfl) (Reps.one (show Kd.M (Kd.int .i32) _ _ _ 1071 [.int .i32 1071] from rfl) (Reps.none _ _)))))))))))))); intro v153 w19 ho20 hb hg_ hnew_; clear hg_ hnew_; (first | rw [← Ny152.out] at ho20 | (simp only [Int.reduceToNat] at ho20; rw [← Ny152.out] at ho20)); have n0_ := Aside0.mk (Kd.R_lower ho20 (below_size (by repeat (first | (with_reducible first | exact HB.out | apply below_alloc | apply pw_below_drewN | apply below_drew1) | exact HB.out)))); have n1_ := Aside0.mk (below_step (by repeat (first | (with_reducible first | exact HB.out | apply below_alloc | apply pw_below_drewN | apply below_drew1) | exact HB.out)) hb); clear HB; have HO154 := n0_; have HB := n1_; clear n0_ n1_; clear hb ho20; obtain ⟨Ao21, co21, eo21⟩ := Kd.R_slice HO154.out; subst eo21) | ((with_reducible refine gate_callee (f := 95) rfl ?_); refine goesL_ (some 11) rfl rfl Tryz.func95 (by kernel_rfl) rfl #[.int .i32 a0, .slice Ao21 y152.length co21] rfl (by (try simp only [List.map_toArray, List.map_cons, List.map_nil]); first | done | rfl | (simp only [List.length_drop, List.length_take]; rfl)) ?_; (with_reducible refine (incipitref03_among.calls kj1 a0 _ _ y152 false _ ?side1 ?side2 A5.out).mono ?_); (case side1 => repeat (first | exact (Kd.R_reads' HO154.out).2.2 | (with_reducible refine Kd.C_alloc ?_ _) | (with_reducible refine Kd.C_drewN ?_ _) | (with_reducible refine Kd.C_drew ?_))); (case side2 => exact (Kd.R_reads' HO154.out).2.1); rintro e w' ⟨rfl, ⟨nd, rfl⟩⟩; refine ⟨_, rfl, ?_⟩) | ((with_reducible refine gate_dst (N := 16) rfl ?_); refine Kd.R_lit (Kd.int .i32) _ 21 ?hg (N := 16) ?hd (xs := ([1024, 1039] : List Int)) (inner := [.int .i32 1024, .int .i32 1039]) (ok := fun _ => True) (okp := fun _ => True) ?hr ?hp (fun _ hk => hk) trivial (Below.refl _ _) (Nat.le_refl _) (by simp) ?_; (case hd => rfl); (case hg => rfl); (case hr => first | (go_simp; done) | (go_simp; rfl)); (case hp => exact (Reps.one (show Kd.M (Kd.int .i32) _ _ _ 1024 [.int .i32 1024] from rfl) (Reps.one (show Kd.M (Kd.int .i32) _ _ _ 1039 [.int .i32 1039] from rfl) (Reps.none _ _)))); intro v157 w22 ho23 hb hg_ hnew_; clear hg_ hnew_; (first | rw [← Ny156.out] at ho23 | (simp only [Int.reduceToNat] at ho23; rw [← Ny156.out] at ho23)); have n0_ := Aside0.mk (Kd.R_elder' (by (with_reducible repeat (first | apply Kd.R_alloc | apply Kd.R_drewN | apply Kd.R_drew)); exact HO154.out) (Kd.R_base ho23) hb); have n1_ := Aside0.mk (Kd.R_lower (Kd.R_new' ho23 (Kd.R_lt (by (with_reducible repeat (first | apply Kd.R_alloc | apply Kd.R_drewN | apply Kd.R_drew)); exact HO154.out))) (below_size (by repeat (first | (with_reducible first | exact HB.out | apply below_alloc | apply pw_below_drewN | apply below_drew1) | exact HB.out)))); have n2_ := Aside0.mk (below_step (by repeat (first | (with_reducible first | exact HB.out | apply below_alloc | apply pw_below_drewN | apply below_drew1) | exact HB.out)) hb); clear HO154; clear HB; have HO154 := n0_; have HO158 := n1_; have HB := n2_; clear n0_ n1_ n2_; clear hb ho23; obtain ⟨Ao24, co24, eo24⟩ := Kd.R_slice HO158.out; subst eo24) | ((with_reducible refine gate_callee (f := 95) rfl ?_); refine goesL_ (some 17) rfl rfl Tryz.func95 (by kernel_rfl) rfl #[.int .i32 a0, .slice Ao24 y156.length co24] rfl (by (try simp only [List.map_toArray, List.map_cons, List.map_nil]); first | done | rfl | (simp only [List.length_drop, List.length_take]; rfl)) ?_; (with_reducible refine (incipitref03_among.calls kj1 a0 _ _ y156 false _ ?side1 ?side2 A10.out).mono ?_); (case side1 => repeat (first | exact (Kd.R_reads' HO158.out).2.2 | (with_reducible refine Kd.C_alloc ?_ _) | (with_reducible refine Kd.C_drewN ?_ _) | (with_reducible refine Kd.C_drew ?_))); (case side2 => exact (Kd.R_reads' HO158.out).2.1); rintro e w' ⟨rfl, ⟨nd, rfl⟩⟩; refine ⟨_, rfl, ?_⟩))
              go_ret
              exact ⟨by first | rfl | (simp [errW_none, errW_some] <;> rfl) | (simp [*, errW_none, errW_some] <;> rfl), by repeat (first | (with_reducible first | exact HB.out | apply below_alloc | apply pw_below_drewN | apply below_drew1) | exact HB.out)⟩
            · rw [if_neg c18] at H
              have c18b0 : (a0 == 962) = false := beq_eq_false_iff_ne.mpr c18
              have c18b1 : (a0 != 962) = true := bne_iff_ne.mpr c18
              obtain rfl := Option.some.inj H
              go_wp2_with (first | ((with_reducible refine gate_dst (N := 10) rfl ?_); refine Kd.R_lit (Kd.int .i32) _ 21 ?hg (N := 10) ?hd (xs := ([65, 90, 192, 214, 216, 222, 913, 929, 931, 939, 1040, 1071] : List Int)) (inner := [.int .i32 65, .int .i32 90, .int .i32 192, .int .i32 214, .int .i32 216, .int .i32 222, .int .i32 913, .int .i32 929, .int .i32 931, .int .i32 939, .int .i32 1040, .int .i32 1071]) (ok := fun _ => True) (okp := fun _ => True) ?hr ?hp (fun _ hk => hk) trivial (Below.refl _ _) (Nat.le_refl _) (by simp) ?_; (case hd => rfl); (case hg => rfl); (case hr => first | (go_simp; done) | (go_simp; rfl)); (case hp => exact (Reps.one (show Kd.M (Kd.int .i32) _ _ _ 65 [.int .i32 65] from rfl) (Reps.one (show Kd.M (Kd.int .i32) _ _ _ 90 [.int .i32 90] from rfl) (Reps.one (show Kd.M (Kd.int .i32) _ _ _ 192 [.int .i32 192] from rfl) (Reps.one (show Kd.M (Kd.int .i32) _ _ _ 214 [.int .i32 214] from rfl) (Reps.one (show Kd.M (Kd.int .i32) _ _ _ 216 [.int .i32 216] from rfl) (Reps.one (show Kd.M (Kd.int .i32) _ _ _ 222 [.int .i32 222] from rfl) (Reps.one (show Kd.M (Kd.int .i32) _ _ _ 913 [.int .i32 913] from rfl) (Reps.one (show Kd.M (Kd.int .i32) _ _ _ 929 [.int .i32 929] from rfl) (Reps.one (show Kd.M (Kd.int .i32) _ _ _ 931 [.int .i32 931] from rfl) (Reps.one (show Kd.M (Kd.int .i32) _ _ _ 939 [.int .i32 939] from rfl) (Reps.one (show Kd.M (Kd.int .i32) _ _ _ 1040 [.int .i32 1040] from rfl) (Reps.one (show Kd.M (Kd.int .i32) _ _ _ 1071 [.int .i32 1071] from rfl) (Reps.none _ _)))))))))))))); intro v153 w25 ho26 hb hg_ hnew_; clear hg_ hnew_; (first | rw [← Ny152.out] at ho26 | (simp only [Int.reduceToNat] at ho26; rw [← Ny152.out] at ho26)); have n0_ := Aside0.mk (Kd.R_lower ho26 (below_size (by repeat (first | (with_reducible first | exact HB.out | apply below_alloc | apply pw_below_drewN | apply below_drew1) | exact HB.out)))); have n1_ := Aside0.mk (below_step (by repeat (first | (with_reducible first | exact HB.out | apply below_alloc | apply pw_below_drewN | apply below_drew1) | exact HB.out)) hb); clear HB; have HO154 := n0_; have HB := n1_; clear n0_ n1_; clear hb ho26; obtain ⟨Ao27, co27, eo27⟩ := Kd.R_slice HO154.out; subst eo27) | ((with_reducible refine gate_callee (f := 95) rfl ?_); refine goesL_ (some 11) rfl rfl Tryz.func95 (by kernel_rfl) rfl #[.int .i32 a0, .slice Ao27 y152.length co27] rfl (by (try simp only [List.map_toArray, List.map_cons, List.map_nil]); first | done | rfl | (simp only [List.length_drop, List.length_take]; rfl)) ?_; (with_reducible refine (incipitref03_among.calls kj1 a0 _ _ y152 false _ ?side1 ?side2 A5.out).mono ?_); (case side1 => repeat (first | exact (Kd.R_reads' HO154.out).2.2 | (with_reducible refine Kd.C_alloc ?_ _) | (with_reducible refine Kd.C_drewN ?_ _) | (with_reducible refine Kd.C_drew ?_))); (case side2 => exact (Kd.R_reads' HO154.out).2.1); rintro e w' ⟨rfl, ⟨nd, rfl⟩⟩; refine ⟨_, rfl, ?_⟩) | ((with_reducible refine gate_dst (N := 16) rfl ?_); refine Kd.R_lit (Kd.int .i32) _ 21 ?hg (N := 16) ?hd (xs := ([1024, 1039] : List Int)) (inner := [.int .i32 1024, .int .i32 1039]) (ok := fun _ => True) (okp := fun _ => True) ?hr ?hp (fun _ hk => hk) trivial (Below.refl _ _) (Nat.le_refl _) (by simp) ?_; (case hd => rfl); (case hg => rfl); (case hr => first | (go_simp; done) | (go_simp; rfl)); (case hp => exact (Reps.one (show Kd.M (Kd.int .i32) _ _ _ 1024 [.int .i32 1024] from rfl) (Reps.one (show Kd.M (Kd.int .i32) _ _ _ 1039 [.int .i32 1039] from rfl) (Reps.none _ _)))); intro v157 w28 ho29 hb hg_ hnew_; clear hg_ hnew_; (first | rw [← Ny156.out] at ho29 | (simp only [Int.reduceToNat] at ho29; rw [← Ny156.out] at ho29)); have n0_ := Aside0.mk (Kd.R_elder' (by (with_reducible repeat (first | apply Kd.R_alloc | apply Kd.R_drewN | apply Kd.R_drew)); exact HO154.out) (Kd.R_base ho29) hb); have n1_ := Aside0.mk (Kd.R_lower (Kd.R_new' ho29 (Kd.R_lt (by (with_reducible repeat (first | apply Kd.R_alloc | apply Kd.R_drewN | apply Kd.R_drew)); exact HO154.out))) (below_size (by repeat (first | (with_reducible first | exact HB.out | apply below_alloc | apply pw_below_drewN | apply below_drew1) | exact HB.out)))); have n2_ := Aside0.mk (below_step (by repeat (first | (with_reducible first | exact HB.out | apply below_alloc | apply pw_below_drewN | apply below_drew1) | exact HB.out)) hb); clear HO154; clear HB; have HO154 := n0_; have HO158 := n1_; have HB := n2_; clear n0_ n1_ n2_; clear hb ho29; obtain ⟨Ao30, co30, eo30⟩ := Kd.R_slice HO158.out; subst eo30) | ((with_reducible refine gate_callee (f := 95) rfl ?_); refine goesL_ (some 17) rfl rfl Tryz.func95 (by kernel_rfl) rfl #[.int .i32 a0, .slice Ao30 y156.length co30] rfl (by (try simp only [List.map_toArray, List.map_cons, List.map_nil]); first | done | rfl | (simp only [List.length_drop, List.length_take]; rfl)) ?_; (with_reducible refine (incipitref03_among.calls kj1 a0 _ _ y156 false _ ?side1 ?side2 A10.out).mono ?_); (case side1 => repeat (first | exact (Kd.R_reads' HO158.out).2.2 | (with_reducible refine Kd.C_alloc ?_ _) | (with_reducible refine Kd.C_drewN ?_ _) | (with_reducible refine Kd.C_drew ?_))); (case side2 => exact (Kd.R_reads' HO158.out).2.1); rintro e w' ⟨rfl, ⟨nd, rfl⟩⟩; refine ⟨_, rfl, ?_⟩))
              go_ret
              exact ⟨by first | rfl | (simp [errW_none, errW_some] <;> rfl) | (simp [*, errW_none, errW_some] <;> rfl), by repeat (first | (with_reducible first | exact HB.out | apply below_alloc | apply pw_below_drewN | apply below_drew1) | exact HB.out)⟩

/-! ### incipitref03_Fold: function 43 -/
def incipitref03_Fold.l0 : Nat → ByteArray → List Int → Int → Option (ByteArray)
  | 0, _, _, _ => none
  | k + 1, x3, x4, x5 => if x5 < (x4.length : Int) then (if 0 ≤ x5 then ((incipitref03_fold.f k (rd x4 x5)).bind fun t164 => (if x3.size + t164.size ≤ 9223372036854775807 then (incipitref03_Fold.l0 k (x3 ++ t164) x4 (wrap64 (x5 + 1))) else (none))) else (none)) else (some x3)
def incipitref03_Fold.f (k : Nat) (a0 : ByteArray) : Option (ByteArray) := (incipitref01_Runes.f k a0).bind fun t160 => (incipitref03_Fold.l0 k (⟨#[]⟩ : ByteArray) t160 0)
set_option maxHeartbeats 8000000 in
set_option maxRecDepth 100000 in
theorem incipitref03_Fold.calls (k : Nat) (a0 : ByteArray) (r : ByteArray) (w : World) (h : incipitref03_Fold.f k a0 = some r) :
    Calls Tryz.prog 43 #[.string a0] w fun e w' => e = .returned (.string r) ∧ Below w.heap.size w w' := by
  have HB := Aside0.mk (Below.refl w.heap.size w)
  have H : ((incipitref01_Runes.f k a0).bind fun t160 => (incipitref03_Fold.l0 k (⟨#[]⟩ : ByteArray) t160 0)) = some r := h
  clear h
  replace H := Option.bind_eq_some_iff.mp H
  obtain ⟨t160, A20, H⟩ := H
  replace H : (incipitref03_Fold.l0 k (⟨#[]⟩ : ByteArray) t160 0) = some r := H
  have A2 := Aside0.mk A20
  clear A20
  have H' := Aside0.mk H
  clear H
  go_enter Tryz.func43, Tryz.ntmps43
  go_wp2_with (first | ((with_reducible refine gate_callee (f := 69) rfl ?_); refine goesL_ (some 7) rfl rfl Tryz.func69 (by kernel_rfl) rfl #[.string a0] rfl (by (try simp only [List.map_toArray, List.map_cons, List.map_nil]); first | done | rfl | (simp only [List.length_drop, List.length_take]; rfl)) ?_; (with_reducible refine (incipitref01_Runes.calls k a0 t160 _ A2.out).mono ?_); rintro e w3 ⟨v161, rfl, ho0, hb⟩; refine ⟨_, rfl, ?_⟩; have n0_ := Aside0.mk (Kd.R_lower ho0 (below_size (by repeat (first | (with_reducible first | exact HB.out | apply below_alloc | apply pw_below_drewN | apply below_drew1) | exact HB.out)))); have n1_ := Aside0.mk (below_step (by repeat (first | (with_reducible first | exact HB.out | apply below_alloc | apply pw_below_drewN | apply below_drew1) | exact HB.out)) hb); clear HB; have HO162 := n0_; have HB := n1_; clear n0_ n1_; (try clear hb); (try clear hb2); (try clear hk); (try clear hi); (try clear ho0)))
  go_loopg [3, 5] k (fun kq v3 v5 w' => ∃ (x3_1 : ByteArray) (x5_1 : Int), v3 = .string x3_1 ∧ v5 = .int .i64 x5_1 ∧ Aside0 (incipitref03_Fold.l0 kq x3_1 t160 x5_1 = some r) ∧ Aside0 (kq ≤ k) ∧ Aside0 (Kd.R (Kd.int .i32) 21 w' w.heap.size (fun _ => True) v161 t160) ∧ Aside0 (Below w.heap.size w w'))
  case atStart => exact ⟨((⟨#[]⟩ : ByteArray)), (0), (by first | rfl | (simp; done) | (simp [*]; done)), (by first | rfl | (simp; done) | (simp [*]; done)), H', ⟨Nat.le_refl _⟩, ⟨by (with_reducible repeat (first | apply Kd.R_alloc | apply Kd.R_drewN | apply Kd.R_drew)); exact HO162.out⟩, ⟨by repeat (first | (with_reducible first | exact HB.out | apply below_alloc | apply pw_below_drewN | apply below_drew1) | exact HB.out)⟩⟩
  case round =>
    clear H'
    try clear p2
    obtain ⟨x3_1, x5_1, rfl, rfl, HA, HK1, HO_4, HB⟩ := hrel
    cases gk with
    | zero => exact absurd HA.out (by simp [incipitref03_Fold.l0])
    | succ k1 =>
      have H := HA.out
      clear HA
      simp only [incipitref03_Fold.l0] at H
      by_cases c4 : x5_1 < (t160.length : Int)
      · rw [if_pos c4] at H
        have c4b0 : decide (x5_1 < (t160.length : Int)) = true := decide_eq_true c4
        clear c4
        by_cases c5 : 0 ≤ x5_1
        · rw [if_pos c5] at H
          have c5b0 : decide (0 ≤ x5_1) = true := decide_eq_true c5
          clear c5
          replace H := Option.bind_eq_some_iff.mp H
          obtain ⟨t164, A60, H⟩ := H
          replace H : (if x3_1.size + t164.size ≤ 9223372036854775807 then (incipitref03_Fold.l0 k1 (x3_1 ++ t164) t160 (wrap64 (x5_1 + 1))) else (none)) = some r := H
          have A6 := Aside0.mk A60
          clear A60
          by_cases c7 : x3_1.size + t164.size ≤ 9223372036854775807
          · rw [if_pos c7] at H
            have c7b0 := eq_true c7
            have c7b1 : decide (x3_1.size + t164.size ≤ 9223372036854775807) = true := decide_eq_true c7
            try have c7b2 : (9223372036854775807 < x3_1.size + t164.size) = False := eq_false (Nat.not_lt.2 c7)
            have H' := Aside0.mk H
            clear H
            obtain ⟨Ao8, co8, eo8⟩ := Kd.R_slice HO_4.out
            subst eo8
            have p163 : 0 ≤ (x5_1 : Int) := of_decide_eq_true (by first | (with_reducible assumption) | assumption)
            have q163 : x5_1 < (t160.length : Int) := of_decide_eq_true (by first | (with_reducible assumption) | assumption)
            obtain ⟨ad163, e163, hx163_0⟩ := Kd.at_int (Kd.R_reads' HO_4.out).2.2 x5_1 p163 q163
            cases e163
            replace p163 := eq_true p163
            replace q163 := eq_true q163
            go_wp2_with (first | ((with_reducible refine gate_callee (f := 70) rfl ?_); refine goesL_ (some 19) rfl rfl Tryz.func70 (by kernel_rfl) rfl #[.int .i32 (rd t160 x5_1)] rfl (by (try simp only [List.map_toArray, List.map_cons, List.map_nil]); first | done | rfl | (simp only [List.length_drop, List.length_take]; rfl)) ?_; (with_reducible refine (incipitref03_fold.calls k1 (rd t160 x5_1) t164 _ A6.out).mono ?_); rintro e w9 ⟨rfl, hb⟩; refine ⟨_, rfl, ?_⟩; have n0_ := Aside0.mk (Kd.R_below (by (with_reducible repeat (first | apply Kd.R_alloc | apply Kd.R_drewN | apply Kd.R_drew)); exact HO_4.out) hb); have n1_ := Aside0.mk (below_step (by repeat (first | (with_reducible first | exact HB.out | apply below_alloc | apply pw_below_drewN | apply below_drew1) | exact HB.out)) hb); clear HO_4; clear HB; have HO_4 := n0_; have HB := n1_; clear n0_ n1_; (try clear hb); (try clear hb2); (try clear hk); (try clear hi)))
            go_roundg k1
            case measure => have := HK1.out; omega
            case rel => exact ⟨(x3_1 ++ t164), (wrap64 (x5_1 + 1)), (by first | rfl | (simp; done) | (simp [*]; done)), (by first | rfl | (simp; done) | (simp [*]; done)), H', ⟨by have := HK1.out; omega⟩, ⟨by (with_reducible repeat (first | apply Kd.R_alloc | apply Kd.R_drewN | apply Kd.R_drew)); exact HO_4.out⟩, ⟨by repeat (first | (with_reducible first | exact HB.out | apply below_alloc | apply pw_below_drewN | apply below_drew1) | exact HB.out)⟩⟩
          · rw [if_neg c7] at H
            exact absurd H (by simp)
        · rw [if_neg c5] at H
          exact absurd H (by simp)
      · rw [if_neg c4] at H
        have c4b0 : decide (x5_1 < (t160.length : Int)) = false := decide_eq_false c4
        clear c4
        obtain rfl := Option.some.inj H
        obtain ⟨Ao10, co10, eo10⟩ := Kd.R_slice HO_4.out
        subst eo10
        go_wp2
        go_ret
        exact ⟨by first | rfl | (simp [errW_none, errW_some] <;> rfl) | (simp [*, errW_none, errW_some] <;> rfl), by repeat (first | (with_reducible first | exact HB.out | apply below_alloc | apply pw_below_drewN | apply below_drew1) | exact HB.out)⟩

/-! ### incipitref03_Label: function 22 -/
mutual
def incipitref03_Label.l0 : Nat → ByteArray → List Int → Bool → Int → Option (ByteArray)
  | 0, _, _, _, _ => none
  | k + 1, x0, x3, x4, x5 => if x5 < (x0.size : Int) then (if 0 ≤ x5 then (if (bt x0 x5) = 32 then (incipitref03_Label.j1 k x0 x3 x4 x5 true) else (if (bt x0 x5) ≥ 9 then (incipitref03_Label.j1 k x0 x3 x4 x5 (decide ((bt x0 x5) ≤ 13))) else (incipitref03_Label.j1 k x0 x3 x4 x5 false))) else (none)) else ((incipitref03_Fold.f k (strOfNums x3)).bind fun t165 => (some t165))
def incipitref03_Label.j1 : Nat → ByteArray → List Int → Bool → Int → Bool → Option (ByteArray)
  | 0, _, _, _, _, _ => none
  | k + 1, x0, x3, x4, x5, x27 => if x27 = true then (incipitref03_Label.l0 k x0 x3 (decide ((x3.length : Int) > 0)) (wrap64 (x5 + 1))) else (if x4 = true then (if x3.length < 140737488355328 then ((some (x3 ++ [32] : List Int)).bind fun y166 => (if 0 ≤ x5 then (if x5 < (x0.size : Int) then (if y166.length < 140737488355328 then (incipitref03_Label.l0 k x0 (y166 ++ [bt x0 x5]) false (wrap64 (x5 + 1))) else (none)) else (none)) else (none))) else (none)) else (if 0 ≤ x5 then (if x5 < (x0.size : Int) then (if x3.length < 140737488355328 then (incipitref03_Label.l0 k x0 (x3 ++ [bt x0 x5]) false (wrap64 (x5 + 1))) else (none)) else (none)) else (none)))
end
def incipitref03_Label.f (k : Nat) (a0 : ByteArray) : Option (ByteArray) := incipitref03_Label.l0 k a0 ([] : List Int) false 0
set_option maxHeartbeats 8000000 in
set_option maxRecDepth 100000 in
theorem incipitref03_Label.calls (k : Nat) (a0 : ByteArray) (r : ByteArray) (w : World) (h : incipitref03_Label.f k a0 = some r) :
    Calls Tryz.prog 22 #[.string a0] w fun e w' => e = .returned (.string r) ∧ Below w.heap.size w w' := by
  have HB := Aside0.mk (Below.refl w.heap.size w)
  have H : (incipitref03_Label.l0 k a0 ([] : List Int) false 0) = some r := h
  clear h
  have H' := Aside0.mk H
  clear H
  go_enter Tryz.func22, Tryz.ntmps22
  go_wp2
  go_loopg [3, 4, 5] k (fun kq v3 v4 v5 w' => ∃ (x3_1 : List Int) (x4_1 : Bool) (x5_1 : Int), v4 = .bool x4_1 ∧ v5 = .int .i64 x5_1 ∧ Aside0 (incipitref03_Label.l0 kq a0 x3_1 x4_1 x5_1 = some r) ∧ Aside0 (kq ≤ k) ∧ Aside0 (Kd.R (Kd.int .u8) 5 w' w.heap.size (fun _ => True) v3 x3_1) ∧ Aside0 (Below w.heap.size w w'))
  case atStart => exact ⟨(([] : List Int)), (false), (0), (by first | rfl | (simp; done) | (simp [*]; done)), (by first | rfl | (simp; done) | (simp [*]; done)), H', ⟨Nat.le_refl _⟩, ⟨by first | exact Kd.R_nil _ _ _ _ _ | exact Kd.N_nil _ _ _ _ _ | exact Kd.V_nil _ _ _ _ _ | exact Kd.Q_nil _ _ _ _ _ | exact Kd.S_nil _ _ _ _ _⟩, ⟨by repeat (first | (with_reducible first | exact HB.out | apply below_alloc | apply pw_below_drewN | apply below_drew1) | exact HB.out)⟩⟩
  case round =>
    clear H'
    obtain ⟨x3_1, x4_1, x5_1, rfl, rfl, HA, HK1, HO_3, HB⟩ := hrel
    cases gk with
    | zero => exact absurd HA.out (by simp [incipitref03_Label.l0])
    | succ k1 =>
      have H := HA.out
      clear HA
      simp only [incipitref03_Label.l0] at H
      by_cases c2 : x5_1 < (a0.size : Int)
      · rw [if_pos c2] at H
        have c2b0 : decide (x5_1 < (a0.size : Int)) = true := decide_eq_true c2
        clear c2
        have HC3 := Aside0.mk H
        clear H
        go_upto_region 6 with (fail)
        go_cut [27] (fun v27 wc => ∃ (kq : Nat) (x27_2 : Bool), v27 = .bool x27_2 ∧ Aside0 (incipitref03_Label.j1 kq a0 x3_1 x4_1 x5_1 x27_2 = some r) ∧ Aside0 (kq ≤ k1) ∧ Aside0 (Kd.R (Kd.int .u8) 5 wc w.heap.size (fun _ => True) u3 x3_1) ∧ Aside0 (Below w.heap.size w wc))
        case first =>
          have H := HC3.out
          clear HC3
          by_cases c4 : 0 ≤ x5_1
          · rw [if_pos c4] at H
            have c4b0 : decide (0 ≤ x5_1) = true := decide_eq_true c4
            clear c4
            (first | rw [c4b0] | (simp only [i64_w, i32_w]; rw [c4b0]) | skip)
            by_cases c6 : (bt a0 x5_1) = 32
            · rw [if_pos c6] at H
              have c6b0 : ((bt a0 x5_1) == 32) = true := beq_iff_eq.mpr c6
              have c6b1 : ((bt a0 x5_1) != 32) = false := bne_eq_false_iff_eq.mpr c6
              clear c6
              have H' := Aside0.mk H
              clear H
              have p5 : 0 ≤ (x5_1 : Int) := of_decide_eq_true (by first | (with_reducible assumption) | assumption)
              have q5 : x5_1 < (a0.size : Int) := of_decide_eq_true (by first | (with_reducible assumption) | assumption)
              have hx5 := bt_at a0 x5_1
              replace p5 := eq_true p5
              replace q5 := eq_true q5
              go_wp2
              go_meet
              case rel => exact ⟨_, (true), (by first | rfl | (simp; done) | (simp [*]; done)), H', ⟨by have := HK1.out; first | omega | exact Nat.le_refl _⟩, ⟨by (with_reducible repeat (first | apply Kd.R_alloc | apply Kd.R_drewN | apply Kd.R_drew)); exact HO_3.out⟩, ⟨by repeat (first | (with_reducible first | exact HB.out | apply below_alloc | apply pw_below_drewN | apply below_drew1) | exact HB.out)⟩⟩
            · rw [if_neg c6] at H
              have c6b0 : ((bt a0 x5_1) == 32) = false := beq_eq_false_iff_ne.mpr c6
              have c6b1 : ((bt a0 x5_1) != 32) = true := bne_iff_ne.mpr c6
              by_cases c8 : (bt a0 x5_1) ≥ 9
              · rw [if_pos c8] at H
                have c8b0 : decide (9 ≤ (bt a0 x5_1)) = true := decide_eq_true c8
                clear c8
                have H' := Aside0.mk H
                clear H
                have p5 : 0 ≤ (x5_1 : Int) := of_decide_eq_true (by first | (with_reducible assumption) | assumption)
                have q5 : x5_1 < (a0.size : Int) := of_decide_eq_true (by first | (with_reducible assumption) | assumption)
                have hx5 := bt_at a0 x5_1
                replace p5 := eq_true p5
                replace q5 := eq_true q5
                have p7 : 0 ≤ (x5_1 : Int) := of_decide_eq_true (by first | (with_reducible assumption) | assumption)
                have q7 : x5_1 < (a0.size : Int) := of_decide_eq_true (by first | (with_reducible assumption) | assumption)
                have hx7 := bt_at a0 x5_1
                replace p7 := eq_true p7
                replace q7 := eq_true q7
                have p9 : 0 ≤ (x5_1 : Int) := of_decide_eq_true (by first | (with_reducible assumption) | assumption)
                have q9 : x5_1 < (a0.size : Int) := of_decide_eq_true (by first | (with_reducible assumption) | assumption)
                have hx9 := bt_at a0 x5_1
                replace p9 := eq_true p9
                replace q9 := eq_true q9
                go_wp2
                go_meet
                case rel => exact ⟨_, (decide ((bt a0 x5_1) ≤ 13)), (by first | rfl | (simp; done) | (simp [*]; done)), H', ⟨by have := HK1.out; first | omega | exact Nat.le_refl _⟩, ⟨by (with_reducible repeat (first | apply Kd.R_alloc | apply Kd.R_drewN | apply Kd.R_drew)); exact HO_3.out⟩, ⟨by repeat (first | (with_reducible first | exact HB.out | apply below_alloc | apply pw_below_drewN | apply below_drew1) | exact HB.out)⟩⟩
              · rw [if_neg c8] at H
                have c8b0 : decide (9 ≤ (bt a0 x5_1)) = false := decide_eq_false c8
                clear c8
                have H' := Aside0.mk H
                clear H
                have p5 : 0 ≤ (x5_1 : Int) := of_decide_eq_true (by first | (with_reducible assumption) | assumption)
                have q5 : x5_1 < (a0.size : Int) := of_decide_eq_true (by first | (with_reducible assumption) | assumption)
                have hx5 := bt_at a0 x5_1
                replace p5 := eq_true p5
                replace q5 := eq_true q5
                have p7 : 0 ≤ (x5_1 : Int) := of_decide_eq_true (by first | (with_reducible assumption) | assumption)
                have q7 : x5_1 < (a0.size : Int) := of_decide_eq_true (by first | (with_reducible assumption) | assumption)
                have hx7 := bt_at a0 x5_1
                replace p7 := eq_true p7
                replace q7 := eq_true q7
                go_wp2
                go_meet
                case rel => exact ⟨_, (false), (by first | rfl | (simp; done) | (simp [*]; done)), H', ⟨by have := HK1.out; first | omega | exact Nat.le_refl _⟩, ⟨by (with_reducible repeat (first | apply Kd.R_alloc | apply Kd.R_drewN | apply Kd.R_drew)); exact HO_3.out⟩, ⟨by repeat (first | (with_reducible first | exact HB.out | apply below_alloc | apply pw_below_drewN | apply below_drew1) | exact HB.out)⟩⟩
          · rw [if_neg c4] at H
            exact absurd H (by simp)
        case rest =>
          clear HC3
          try clear c2
          try clear c2b0
          try clear p2
          try clear c4
          try clear c4b0
          try clear p5
          try clear q5
          try clear hx5
          try clear c6
          try clear c6b0
          try clear c6b1
          try clear p7
          try clear q7
          try clear hx7
          try clear c8
          try clear c8b0
          try clear p9
          try clear q9
          try clear hx9
          try clear p5
          try clear p7
          try clear p9
          try clear q5
          try clear q7
          try clear q9
          obtain ⟨kq, x27_2, rfl, HA, HJ2, HO_3, HB⟩ := hcut
          cases kq with
          | zero => exact absurd HA.out (by simp [incipitref03_Label.j1])
          | succ kj2 =>
            have H := HA.out
            clear HA
            simp only [incipitref03_Label.j1] at H
            by_cases c10 : x27_2 = true
            · subst c10
              have H1 : (incipitref03_Label.l0 kj2 a0 x3_1 (decide ((x3_1.length : Int) > 0)) (wrap64 (x5_1 + 1))) = some r := by rw [if_pos rfl] at H; exact H
              clear H
              have H := H1
              clear H1
              have H' := Aside0.mk H
              clear H
              obtain ⟨Ao11, co11, eo11⟩ := Kd.R_slice HO_3.out
              subst eo11
              go_wp2
              go_roundg kj2
              case measure => have := HK1.out; have := HJ2.out; omega
              case rel => exact ⟨(x3_1), (decide ((x3_1.length : Int) > 0)), (wrap64 (x5_1 + 1)), (by first | rfl | (simp; done) | (simp [*]; done)), (by first | rfl | (simp; done) | (simp [*]; done)), H', ⟨by have := HK1.out; have := HJ2.out; omega⟩, ⟨by (with_reducible repeat (first | apply Kd.R_alloc | apply Kd.R_drewN | apply Kd.R_drew)); exact HO_3.out⟩, ⟨by repeat (first | (with_reducible first | exact HB.out | apply below_alloc | apply pw_below_drewN | apply below_drew1) | exact HB.out)⟩⟩
            · replace c10 := Bool.eq_false_iff.mpr c10
              subst c10
              have H1 : (if x4_1 = true then (if x3_1.length < 140737488355328 then ((some (x3_1 ++ [32] : List Int)).bind fun y166 => (if 0 ≤ x5_1 then (if x5_1 < (a0.size : Int) then (if y166.length < 140737488355328 then (incipitref03_Label.l0 kj2 a0 (y166 ++ [bt a0 x5_1]) false (wrap64 (x5_1 + 1))) else (none)) else (none)) else (none))) else (none)) else (if 0 ≤ x5_1 then (if x5_1 < (a0.size : Int) then (if x3_1.length < 140737488355328 then (incipitref03_Label.l0 kj2 a0 (x3_1 ++ [bt a0 x5_1]) false (wrap64 (x5_1 + 1))) else (none)) else (none)) else (none))) = some r := by rw [if_neg (show ¬ (false = true) by decide)] at H; exact H
              clear H
              have H := H1
              clear H1
              by_cases c12 : x4_1 = true
              · subst c12
                have H1 : (if x3_1.length < 140737488355328 then ((some (x3_1 ++ [32] : List Int)).bind fun y166 => (if 0 ≤ x5_1 then (if x5_1 < (a0.size : Int) then (if y166.length < 140737488355328 then (incipitref03_Label.l0 kj2 a0 (y166 ++ [bt a0 x5_1]) false (wrap64 (x5_1 + 1))) else (none)) else (none)) else (none))) else (none)) = some r := by rw [if_pos rfl] at H; exact H
                clear H
                have H := H1
                clear H1
                by_cases c13 : x3_1.length < 140737488355328
                · rw [if_pos c13] at H
                  have LMc13 := Aside0.mk c13
                  clear c13
                  obtain ⟨y166, hy166⟩ : ∃ y_ : List Int, y_ = (x3_1 ++ [32]) := ⟨_, rfl⟩
                  replace H : (if 0 ≤ x5_1 then (if x5_1 < (a0.size : Int) then (if y166.length < 140737488355328 then (incipitref03_Label.l0 kj2 a0 (y166 ++ [bt a0 x5_1]) false (wrap64 (x5_1 + 1))) else (none)) else (none)) else (none)) = some r := by first | (rw [hy166]; with_reducible exact H) | (have H2_ := (Option.bind_some _ _).symm.trans H; rw [hy166]; with_reducible exact H2_) | (have H2_ := (Option.bind_some _ _).symm.trans H; with_reducible exact H2_) | with_reducible exact H | (rw [hy166]; exact H) | exact H
                  have Ny166 := Aside0.mk hy166
                  clear hy166
                  by_cases c14 : 0 ≤ x5_1
                  · rw [if_pos c14] at H
                    have c14b0 : decide (0 ≤ x5_1) = true := decide_eq_true c14
                    clear c14
                    by_cases c15 : x5_1 < (a0.size : Int)
                    · rw [if_pos c15] at H
                      have c15b0 : decide (x5_1 < (a0.size : Int)) = true := decide_eq_true c15
                      clear c15
                      by_cases c17 : y166.length < 140737488355328
                      · rw [if_pos c17] at H
                        have LMc17 := Aside0.mk c17
                        clear c17
                        obtain ⟨y169, hy169⟩ : ∃ y_ : List Int, y_ = (y166 ++ [bt a0 x5_1]) := ⟨_, rfl⟩
                        replace H : (incipitref03_Label.l0 kj2 a0 y169 false (wrap64 (x5_1 + 1))) = some r := by first | (rw [hy169]; with_reducible exact H) | (have H2_ := (Option.bind_some _ _).symm.trans H; rw [hy169]; with_reducible exact H2_) | (have H2_ := (Option.bind_some _ _).symm.trans H; with_reducible exact H2_) | with_reducible exact H | (rw [hy169]; exact H) | exact H
                        have Ny169 := Aside0.mk hy169
                        clear hy169
                        have H' := Aside0.mk H
                        clear H
                        go_wp2_with (first | ((with_reducible refine gate_builtin (b := .append) (xs := #[.tmp 32, .tmp 33]) rfl ?_); at_builtin; refine Kd.R_append (Kd.int .u8) (w0 := w) w.heap.size rfl (.tmp 32) (.tmp 33) 60 5 (.int .u8 0) 1 rfl Tryz.underlying60 info5 rfl (by decide) (by omega) u3 x3_1 32 [.int .u8 32] (fun _ => True) (fun _ => False) rfl rfl ?aP (fun _ hk => hk.elim) ?aF ?aO ?aB ?aS ?aL ?_; (case aP => exact rfl); (case aB => exact (by repeat (first | (with_reducible first | exact HB.out | apply below_alloc | apply pw_below_drewN | apply below_drew1) | exact HB.out))); (case aF => exact (fun _ _ => trivial)); (case aO => exact (by (with_reducible repeat (first | apply Kd.R_alloc | apply Kd.R_drewN | apply Kd.R_drew)); exact HO_3.out)); (case aS => exact (below_size (by repeat (first | (with_reducible first | exact HB.out | apply below_alloc | apply pw_below_drewN | apply below_drew1) | exact HB.out)))); (case aL => have := LMc13.out; omega); intro v167 w18 ho hb hg hat; rw [← Ny166.out] at ho; have n0_ := Aside0.mk (hb); have n1_ := Aside0.mk (ho); clear HB; clear HO_3; have HB := n0_; have HO168 := n1_; clear n0_ n1_; clear ho hb hg hat; have p16 : 0 ≤ (x5_1 : Int) := of_decide_eq_true (by first | (with_reducible assumption) | assumption); have q16 : x5_1 < (a0.size : Int) := of_decide_eq_true (by first | (with_reducible assumption) | assumption); have hx16 := bt_at a0 x5_1; replace p16 := eq_true p16; replace q16 := eq_true q16) | ((with_reducible refine gate_builtin (b := .append) (xs := #[.tmp 35, .tmp 39]) rfl ?_); at_builtin; refine Kd.R_append (Kd.int .u8) (w0 := w) w.heap.size rfl (.tmp 35) (.tmp 39) 60 5 (.int .u8 0) 1 rfl Tryz.underlying60 info5 rfl (by decide) (by omega) v167 y166 (bt a0 x5_1) [.int .u8 (bt a0 x5_1)] (fun _ => True) (fun _ => False) rfl rfl ?aP (fun _ hk => hk.elim) ?aF ?aO ?aB ?aS ?aL ?_; (case aP => exact rfl); (case aB => exact (by repeat (first | (with_reducible first | exact HB.out | apply below_alloc | apply pw_below_drewN | apply below_drew1) | exact HB.out))); (case aF => exact (fun _ _ => trivial)); (case aO => exact (by (with_reducible repeat (first | apply Kd.R_alloc | apply Kd.R_drewN | apply Kd.R_drew)); exact HO168.out)); (case aS => exact (below_size (by repeat (first | (with_reducible first | exact HB.out | apply below_alloc | apply pw_below_drewN | apply below_drew1) | exact HB.out)))); (case aL => have := LMc17.out; omega); intro v170 w19 ho hb hg hat; rw [← Ny169.out] at ho; have n0_ := Aside0.mk (hb); have n1_ := Aside0.mk (ho); clear HB; clear HO168; have HB := n0_; have HO171 := n1_; clear n0_ n1_; clear ho hb hg hat))
                        go_roundg kj2
                        case measure => have := HK1.out; have := HJ2.out; omega
                        case rel => exact ⟨(y169), (false), (wrap64 (x5_1 + 1)), (by first | rfl | (simp; done) | (simp [*]; done)), (by first | rfl | (simp; done) | (simp [*]; done)), H', ⟨by have := HK1.out; have := HJ2.out; omega⟩, ⟨by (with_reducible repeat (first | apply Kd.R_alloc | apply Kd.R_drewN | apply Kd.R_drew)); exact HO171.out⟩, ⟨by repeat (first | (with_reducible first | exact HB.out | apply below_alloc | apply pw_below_drewN | apply below_drew1) | exact HB.out)⟩⟩
                      · rw [if_neg c17] at H
                        exact absurd H (by simp)
                    · rw [if_neg c15] at H
                      exact absurd H (by simp)
                  · rw [if_neg c14] at H
                    exact absurd H (by simp)
                · rw [if_neg c13] at H
                  exact absurd H (by simp)
              · replace c12 := Bool.eq_false_iff.mpr c12
                subst c12
                have H1 : (if 0 ≤ x5_1 then (if x5_1 < (a0.size : Int) then (if x3_1.length < 140737488355328 then (incipitref03_Label.l0 kj2 a0 (x3_1 ++ [bt a0 x5_1]) false (wrap64 (x5_1 + 1))) else (none)) else (none)) else (none)) = some r := by rw [if_neg (show ¬ (false = true) by decide)] at H; exact H
                clear H
                have H := H1
                clear H1
                by_cases c20 : 0 ≤ x5_1
                · rw [if_pos c20] at H
                  have c20b0 : decide (0 ≤ x5_1) = true := decide_eq_true c20
                  clear c20
                  by_cases c21 : x5_1 < (a0.size : Int)
                  · rw [if_pos c21] at H
                    have c21b0 : decide (x5_1 < (a0.size : Int)) = true := decide_eq_true c21
                    clear c21
                    by_cases c23 : x3_1.length < 140737488355328
                    · rw [if_pos c23] at H
                      have LMc23 := Aside0.mk c23
                      clear c23
                      obtain ⟨y172, hy172⟩ : ∃ y_ : List Int, y_ = (x3_1 ++ [bt a0 x5_1]) := ⟨_, rfl⟩
                      replace H : (incipitref03_Label.l0 kj2 a0 y172 false (wrap64 (x5_1 + 1))) = some r := by first | (rw [hy172]; with_reducible exact H) | (have H2_ := (Option.bind_some _ _).symm.trans H; rw [hy172]; with_reducible exact H2_) | (have H2_ := (Option.bind_some _ _).symm.trans H; with_reducible exact H2_) | with_reducible exact H | (rw [hy172]; exact H) | exact H
                      have Ny172 := Aside0.mk hy172
                      clear hy172
                      have H' := Aside0.mk H
                      clear H
                      have p22 : 0 ≤ (x5_1 : Int) := of_decide_eq_true (by first | (with_reducible assumption) | assumption)
                      have q22 : x5_1 < (a0.size : Int) := of_decide_eq_true (by first | (with_reducible assumption) | assumption)
                      have hx22 := bt_at a0 x5_1
                      replace p22 := eq_true p22
                      replace q22 := eq_true q22
                      go_wp2_with (first | ((with_reducible refine gate_builtin (b := .append) (xs := #[.tmp 35, .tmp 39]) rfl ?_); at_builtin; refine Kd.R_append (Kd.int .u8) (w0 := w) w.heap.size rfl (.tmp 35) (.tmp 39) 60 5 (.int .u8 0) 1 rfl Tryz.underlying60 info5 rfl (by decide) (by omega) u3 x3_1 (bt a0 x5_1) [.int .u8 (bt a0 x5_1)] (fun _ => True) (fun _ => False) rfl rfl ?aP (fun _ hk => hk.elim) ?aF ?aO ?aB ?aS ?aL ?_; (case aP => exact rfl); (case aB => exact (by repeat (first | (with_reducible first | exact HB.out | apply below_alloc | apply pw_below_drewN | apply below_drew1) | exact HB.out))); (case aF => exact (fun _ _ => trivial)); (case aO => exact (by (with_reducible repeat (first | apply Kd.R_alloc | apply Kd.R_drewN | apply Kd.R_drew)); exact HO_3.out)); (case aS => exact (below_size (by repeat (first | (with_reducible first | exact HB.out | apply below_alloc | apply pw_below_drewN | apply below_drew1) | exact HB.out)))); (case aL => have := LMc23.out; omega); intro v173 w24 ho hb hg hat; rw [← Ny172.out] at ho; have n0_ := Aside0.mk (hb); have n1_ := Aside0.mk (ho); clear HB; clear HO_3; have HB := n0_; have HO174 := n1_; clear n0_ n1_; clear ho hb hg hat))
                      go_roundg kj2
                      case measure => have := HK1.out; have := HJ2.out; omega
                      case rel => exact ⟨(y172), (false), (wrap64 (x5_1 + 1)), (by first | rfl | (simp; done) | (simp [*]; done)), (by first | rfl | (simp; done) | (simp [*]; done)), H', ⟨by have := HK1.out; have := HJ2.out; omega⟩, ⟨by (with_reducible repeat (first | apply Kd.R_alloc | apply Kd.R_drewN | apply Kd.R_drew)); exact HO174.out⟩, ⟨by repeat (first | (with_reducible first | exact HB.out | apply below_alloc | apply pw_below_drewN | apply below_drew1) | exact HB.out)⟩⟩
                    · rw [if_neg c23] at H
                      exact absurd H (by simp)
                  · rw [if_neg c21] at H
                    exact absurd H (by simp)
                · rw [if_neg c20] at H
                  exact absurd H (by simp)
      · rw [if_neg c2] at H
        have c2b0 : decide (x5_1 < (a0.size : Int)) = false := decide_eq_false c2
        clear c2
        replace H := Option.bind_eq_some_iff.mp H
        obtain ⟨t165, A250, H⟩ := H
        replace H : (some t165) = some r := H
        have A25 := Aside0.mk A250
        clear A250
        obtain rfl := Option.some.inj H
        have hcv26 := own_string (P := Tryz.prog) Tryz.underlying60 Tryz.underlying5 Tryz.underlying9 (Kd.own_of_R HO_3.out)
        go_wp2_with (first | ((with_reducible refine gate_callee (f := 43) rfl ?_); refine goesL_ (some 43) rfl rfl Tryz.func43 (by kernel_rfl) rfl #[.string (strOfNums x3_1)] rfl (by (try simp only [List.map_toArray, List.map_cons, List.map_nil]); first | done | rfl | (simp only [List.length_drop, List.length_take]; rfl)) ?_; (with_reducible refine (incipitref03_Fold.calls k1 (strOfNums x3_1) t165 _ A25.out).mono ?_); rintro e w27 ⟨rfl, hb⟩; refine ⟨_, rfl, ?_⟩; have n0_ := Aside0.mk (Kd.R_below (by (with_reducible repeat (first | apply Kd.R_alloc | apply Kd.R_drewN | apply Kd.R_drew)); exact HO_3.out) hb); have n1_ := Aside0.mk (below_step (by repeat (first | (with_reducible first | exact HB.out | apply below_alloc | apply pw_below_drewN | apply below_drew1) | exact HB.out)) hb); clear HO_3; clear HB; have HO_3 := n0_; have HB := n1_; clear n0_ n1_; (try clear hb); (try clear hb2); (try clear hk); (try clear hi)))
        go_ret
        exact ⟨by first | rfl | (simp [errW_none, errW_some] <;> rfl) | (simp [*, errW_none, errW_some] <;> rfl), by repeat (first | (with_reducible first | exact HB.out | apply below_alloc | apply pw_below_drewN | apply below_drew1) | exact HB.out)⟩

end Go.Proofs.YtekifcbokdidlaaGreatDoor.PA

namespace Go.Proofs.YtekifcbokdidlaaGreatDoor.Pure
open Go.RowKit Go.Proofs.YtekifcbokdidlaaGreatDoorW.PrintWords Go.Proofs.YtekifcbokdidlaaGreatDoorW.PrintMore Go.Proofs.YtekifcbokdidlaaGreatDoor.Pl Go.Proofs.YtekifcbokdidlaaGreatDoor.PA

/-- Is a number in one of some ranges, two ends each? -/
def amg (r : Int) : List Int → Bool
  | a :: b :: t => (decide (a ≤ r) && decide (r ≤ b)) || amg r t
  | _ => false
theorem rd_at (p t : List Int) (a : Int) (i : Nat) (h : p.length = i) : rd (p ++ a :: t) (i : Int) = a := by
  subst h
  unfold rd
  rw [Int.toNat_natCast]
  simp [List.getD_eq_getElem?_getD]
theorem among_step (r a b : Int) (L : List Int) (i : Nat) (V : Bool) (hl : i + 1 < L.length) (hL : L.length ≤ 1000) (ra : rd L (i : Int) = a) (rb : rd L ((i + 1 : Nat) : Int) = b)
    (ih : Ev (fun k => incipitref03_among.l0 k r L ((i + 2 : Nat) : Int)) V) : Ev (fun k => incipitref03_among.l0 k r L (i : Int)) ((decide (a ≤ r) && decide (r ≤ b)) || V) := by
  have w1 : wrap64 ((i : Int) + 1) = ((i + 1 : Nat) : Int) := by rw [w64 (by omega) (by omega)]; omega
  have w2 : wrap64 ((i : Int) + 2) = ((i + 2 : Nat) : Int) := by rw [w64 (by omega) (by omega)]; omega
  have c1 : ((i + 1 : Nat) : Int) < (L.length : Int) := by omega
  have c2 : (0 : Int) ≤ (i : Int) := by omega
  have c3 : (i : Int) < (L.length : Int) := by omega
  have c4 : (0 : Int) ≤ ((i + 1 : Nat) : Int) := by omega
  by_cases h1 : a ≤ r
  · by_cases h2 : r ≤ b
    · rw [decide_eq_true h1, decide_eq_true h2, Bool.true_and, Bool.true_or]
      refine Ev.step (f := fun _ => some true) (fun k => ?_) (Ev.now _)
      rw [incipitref03_among.l0, w1, if_pos c1, if_pos c2, if_pos c3, ra, if_pos h1, if_pos c4, rb, if_pos h2]
    · rw [decide_eq_true h1, decide_eq_false h2, Bool.true_and, Bool.false_or]
      refine Ev.step (fun k => ?_) ih
      rw [incipitref03_among.l0, w1, if_pos c1, if_pos c2, if_pos c3, ra, if_pos h1, if_pos c4, rb, if_neg h2, w2]
  · rw [decide_eq_false h1, Bool.false_and, Bool.false_or]
    refine Ev.step (fun k => ?_) ih
    rw [incipitref03_among.l0, w1, if_pos c1, if_pos c2, if_pos c3, ra, if_neg h1, w2]
theorem among_l (r : Int) : ∀ (n : Nat) (l p : List Int), l.length = 2 * n → p.length + l.length ≤ 1000 → Ev (fun k => incipitref03_among.l0 k r (p ++ l) (p.length : Int)) (amg r l)
  | 0, l, p, h, hp => by
    obtain rfl := List.length_eq_zero_iff.1 h
    rw [List.append_nil]
    have c1 : ¬ wrap64 ((p.length : Int) + 1) < (p.length : Int) := by rw [w64 (by omega) (by omega)]; omega
    refine Ev.step (f := fun _ => some false) (fun k => ?_) (Ev.now _)
    rw [incipitref03_among.l0, if_neg c1]
  | n + 1, a :: b :: t, p, h, hp => by
    have ih := among_l r n t (p ++ [a, b]) (by simp at h; omega) (by simp at hp ⊢; omega)
    rw [List.append_assoc, show [a, b] ++ t = a :: b :: t from rfl, show (p ++ [a, b]).length = p.length + 2 by simp] at ih
    have ra : rd (p ++ a :: b :: t) (p.length : Int) = a := rd_at p (b :: t) a _ rfl
    have rb : rd (p ++ a :: b :: t) ((p.length + 1 : Nat) : Int) = b := by
      have := rd_at (p ++ [a]) t b (p.length + 1) (by simp)
      rw [List.append_assoc, show [a] ++ b :: t = a :: b :: t from rfl] at this
      exact this
    have hl : (p ++ a :: b :: t).length = p.length + t.length + 2 := by simp; omega
    have hp2 : p.length + t.length + 2 ≤ 1000 := by simp at hp; omega
    have := among_step r a b (p ++ a :: b :: t) p.length (amg r t) (by omega) (by omega) ra rb ih
    rw [amg]
    exact this
  | n + 1, [a], p, h, hp => by simp at h; omega
  | n + 1, [], p, h, hp => by simp at h
theorem among_ev (r : Int) (n : Nat) (l : List Int) (h : l.length = 2 * n) (hl : l.length ≤ 1000) : Ev (fun k => incipitref03_among.f k r l) (amg r l) := among_l r n l [] h (by simpa using hl)
theorem w32 {n : Int} (h0 : 0 ≤ n) (h1 : n ≤ 2000000) : wrap32 n = n := by unfold wrap32; omega
theorem rfold_ev (r : Int) (h0 : 0 < r) (h1 : r ≤ 1114111) (h2 : r < 55296 ∨ 57343 < r) : Ev (fun k => incipitref03_fold.f k r) (B (foldB r)) := by
  unfold incipitref03_fold.f
  by_cases e1 : r = 223
  · subst e1
    refine Ev.congr (fun k => if_pos rfl) (Ev.step (f := fun _ => some (B [115, 115])) (fun k => ?_) (Ev.now _))
    simp only [incipitref03_fold.j0]
    rfl
  · refine Ev.congr (fun k => if_neg e1) ?_
    by_cases e2 : r = 7838
    · subst e2
      refine Ev.step (f := fun _ => some (B [115, 115])) (fun k => ?_) (Ev.now _)
      simp only [incipitref03_fold.j0]
      rfl
    · have hA := among_ev r 6 [65, 90, 192, 214, 216, 222, 913, 929, 931, 939, 1040, 1071] rfl (by decide)
      have hB := among_ev r 1 [1024, 1039] rfl (by decide)
      have aA : amg r [65, 90, 192, 214, 216, 222, 913, 929, 931, 939, 1040, 1071] = true ↔ (65 ≤ r ∧ r ≤ 90) ∨ (192 ≤ r ∧ r ≤ 222 ∧ r ≠ 215) ∨ (913 ≤ r ∧ r ≤ 939 ∧ r ≠ 930) ∨ (1040 ≤ r ∧ r ≤ 1071) := by
        simp only [amg, Bool.or_eq_true, Bool.and_eq_true, decide_eq_true_eq, Bool.false_eq_true, or_false]
        omega
      have aB : amg r [1024, 1039] = true ↔ 1024 ≤ r ∧ r ≤ 1039 := by
        simp only [amg, Bool.or_eq_true, Bool.and_eq_true, decide_eq_true_eq, Bool.false_eq_true, or_false]
      rw [show (r == 7838) = false from beq_eq_false_iff_ne.2 e2]
      have hb : foldB r = Lib.encodeRune (foldR r) := if_neg (by rintro (e | e); exact e1 e; exact e2 e)
      rw [hb]
      refine Ev.step (f := fun k => (incipitref03_among.f k r [65, 90, 192, 214, 216, 222, 913, 929, 931, 939, 1040, 1071]).bind _) (fun k => by
        simp only [incipitref03_fold.j0]
        rw [if_neg (by decide)]) (Ev.bind hA ?_)
      by_cases c1 : amg r [65, 90, 192, 214, 216, 222, 913, 929, 931, 939, 1040, 1071] = true
      · have c1' := aA.1 c1
        have hf : foldR r = r + 32 := by
          unfold foldR
          rw [if_neg (by omega), if_pos c1']
        rw [hf, ← enc_eq (r + 32) (by omega) (by omega) (by omega)]
        refine Ev.congr (f := fun _ => some (Utf8.encode (r + 32))) (fun k => ?_) (Ev.now _)
        rw [if_pos c1, w32 (by omega) (by omega)]
      · have c1' := fun h => c1 (aA.2 h)
        refine Ev.congr (fun k => if_neg c1) ?_
        refine Ev.bind hB ?_
        by_cases c2 : amg r [1024, 1039] = true
        · have c2' := aB.1 c2
          have hf : foldR r = r + 80 := by
            unfold foldR
            rw [if_neg (by omega), if_neg c1', if_pos c2']
          rw [hf, ← enc_eq (r + 80) (by omega) (by omega) (by omega)]
          refine Ev.congr (f := fun _ => some (Utf8.encode (r + 80))) (fun k => ?_) (Ev.now _)
          rw [if_pos c2, w32 (by omega) (by omega)]
        · have c2' := fun h => c2 (aB.2 h)
          refine Ev.congr (fun k => if_neg c2) ?_
          by_cases c3 : r = 962
          · subst c3
            exact Ev.congr (f := fun _ => some (B (Lib.encodeRune (foldR 962)))) (fun k => by rw [if_pos rfl]; rfl) (Ev.now _)
          · have hf : foldR r = r := by
              unfold foldR
              rw [if_neg c3, if_neg c1', if_neg c2']
            rw [hf, ← enc_eq r (by omega) (by omega) (by omega)]
            exact Ev.congr (f := fun _ => some (Utf8.encode r)) (fun k => if_neg c3) (Ev.now _)
theorem rFold_l : ∀ (l p : List Int) (acc : List UInt8), (∀ n ∈ l, 0 < n ∧ n ≤ 1114111 ∧ (n < 55296 ∨ 57343 < n)) → p.length + l.length ≤ 1000000 → acc.length + 4 * l.length ≤ 10000000 →
    Ev (fun k => incipitref03_Fold.l0 k (B acc) (p ++ l) (p.length : Int)) (B (acc ++ foldL l))
  | [], p, acc, _, hp, ha => by
    refine Ev.step (f := fun _ => some (B (acc ++ foldL []))) (fun k => ?_) (Ev.now _)
    simp only [incipitref03_Fold.l0]
    rw [if_neg (by rw [List.append_nil]; omega), show foldL [] = [] from rfl, List.append_nil]
  | n :: l, p, acc, h, hp, ha => by
    have hp' : p.length + l.length + 1 ≤ 1000000 := by simp at hp; omega
    have ha' : acc.length + 4 * l.length + 4 ≤ 10000000 := by simp at ha; omega
    have hn := h n (by simp)
    have hb := foldB_len n
    have ih := rFold_l l (p ++ [n]) (acc ++ foldB n) (fun m hm => h m (by simp [hm])) (by simp; omega) (by rw [List.length_append]; omega)
    rw [List.append_assoc, show [n] ++ l = n :: l from rfl, show (p ++ [n]).length = p.length + 1 by simp, List.append_assoc] at ih
    have hr : rd (p ++ n :: l) (p.length : Int) = n := rd_at p l n _ rfl
    have hl : (p ++ n :: l).length = p.length + l.length + 1 := by simp; omega
    refine Ev.step (f := fun k => (incipitref03_fold.f k n).bind _) (fun k => by
      simp only [incipitref03_Fold.l0]
      rw [if_pos (by rw [hl]; omega), if_pos (by omega), hr]) (Ev.bind (rfold_ev n hn.1 hn.2.1 hn.2.2) ?_)
    rw [show foldL (n :: l) = foldB n ++ foldL l from rfl]
    refine Ev.congr (fun k => ?_) ih
    rw [if_pos (by rw [B_size, B_size]; omega), B_append, w64 (by omega) (by omega)]
    rfl
theorem rruns_ev (s : List UInt8) (h : s.length ≤ 100000) : Ev (fun k => incipitref01_Runes.f k (B s)) (chars (clean s)) := by
  obtain ⟨K, hK⟩ := rclean_ev s (by omega)
  refine ⟨max K 7, fun k hk => ?_⟩
  show incipitref01_Runes.f k (B s) = _
  unfold incipitref01_Runes.f
  rw [B_data, if_pos ⟨by rw [B_size]; omega, by omega, hK k (by omega)⟩]
theorem rFold_ev (s : List UInt8) (h : s.length ≤ 100000) : Ev (fun k => incipitref03_Fold.f k (B s)) (B (foldL (chars (clean s)))) := by
  have hc := chars_clean s
  refine Ev.bind (rruns_ev s h) ?_
  exact rFold_l (chars (clean s)) [] [] hc.1 (by have := hc.2.1; simp; omega) (by have := hc.2.1; simp; omega)
theorem whB_int (x : UInt8) : whB x = true ↔ ((x.toNat : Int) = 32 ∨ ((x.toNat : Int) ≥ 9 ∧ (x.toNat : Int) ≤ 13)) := by
  unfold whB
  simp only [Bool.or_eq_true, Bool.and_eq_true, decide_eq_true_eq]
  omega
theorem bt_at1 (p r : List UInt8) (x : UInt8) : bt (B (p ++ x :: r)) (p.length : Int) = (x.toNat : Int) := by
  rw [B_bt (p ++ x :: r) p.length (by simp)]
  simp
theorem rlab_j1 (p r b : List UInt8) (x : UInt8) (g : Bool) (hp : p.length + r.length + 1 ≤ 20000) (hb : b.length ≤ 2 * p.length)
    (hY : Ev (fun k => incipitref03_Label.l0 k (B (p ++ x :: r)) (nms b) (decide (b ≠ [])) ((p.length + 1 : Nat) : Int)) (B (foldL (chars (clean (cl b (decide (b ≠ [])) r))))))
    (hN : Ev (fun k => incipitref03_Label.l0 k (B (p ++ x :: r)) (nms (b ++ (if g = true then [32] else []) ++ [x])) false ((p.length + 1 : Nat) : Int)) (B (foldL (chars (clean (cl (b ++ (if g = true then [32] else []) ++ [x]) false r)))))) :
    Ev (fun k => incipitref03_Label.j1 k (B (p ++ x :: r)) (nms b) g (p.length : Int) (whB x)) (B (foldL (chars (clean (cl b g (x :: r)))))) := by
  have w1 : wrap64 ((p.length : Int) + 1) = ((p.length + 1 : Nat) : Int) := by rw [w64 (by omega) (by omega)]; omega
  have hsz : (p.length : Int) < ((B (p ++ x :: r)).size : Int) := by rw [B_size]; simp; omega
  have hz := bt_at1 p r x
  rw [cl]
  cases hw : whB x with
  | true =>
    rw [if_pos rfl]
    refine Ev.step (fun k => ?_) hY
    simp only [incipitref03_Label.j1]
    rw [if_pos (by first | trivial | rfl), nms_len, w1]
    congr 1
    exact decide_eq_decide.2 ⟨fun h e => by rw [e] at h; simp at h, fun h => by rcases Nat.eq_zero_or_pos b.length with e | e; exact absurd (List.length_eq_zero_iff.1 e) h; omega⟩
  | false =>
    rw [if_neg (by decide)]
    have h32 : nms b ++ [32] = nms (b ++ [32]) := by simp [nms]
    have hx1 : ∀ c : List UInt8, nms c ++ [(x.toNat : Int)] = nms (c ++ [x]) := fun c => by simp [nms]
    refine Ev.step (fun k => ?_) hN
    simp only [incipitref03_Label.j1]
    cases g with
    | true => 
      rw [if_neg (by decide), if_pos (by first | trivial | rfl), if_pos (by rw [nms_len]; omega), Option.bind_some, if_pos (by omega), if_pos hsz, if_pos (by rw [List.length_append, nms_len]; simp; omega), hz, w1, h32, hx1]
      rfl
    | false => 
      rw [if_neg (by decide), if_neg (by decide), if_pos (by omega), if_pos hsz, if_pos (by rw [nms_len]; omega), hz, w1, hx1]
      rw [if_neg (by decide), List.append_nil]
theorem rlab_l : ∀ (r p b : List UInt8) (g : Bool), p.length + r.length ≤ 20000 → b.length ≤ 2 * p.length →
    Ev (fun k => incipitref03_Label.l0 k (B (p ++ r)) (nms b) g (p.length : Int)) (B (foldL (chars (clean (cl b g r)))))
  | [], p, b, g, hp, hb => by
    rw [cl]
    refine Ev.step (f := fun k => (incipitref03_Fold.f k (B b)).bind _) (fun k => by
      simp only [incipitref03_Label.l0]
      rw [if_neg (by rw [B_size, List.append_nil]; omega), nms_str]) (Ev.bind (rFold_ev b (by simp at hp; omega)) (Ev.now _))
  | x :: r, p, b, g, hp, hb => by
    have hp' : p.length + r.length + 1 ≤ 20000 := by simp at hp; omega
    have hY := rlab_l r (p ++ [x]) b (decide (b ≠ [])) (by simp; omega) (by simp; omega)
    have hN := rlab_l r (p ++ [x]) (b ++ (if g = true then [32] else []) ++ [x]) false (by simp; omega) (by cases g <;> simp <;> omega)
    rw [List.append_assoc, show [x] ++ r = x :: r from rfl, show (p ++ [x]).length = p.length + 1 by simp] at hY hN
    have hj := rlab_j1 p r b x g hp' hb hY hN
    have hsz : (p.length : Int) < ((B (p ++ x :: r)).size : Int) := by rw [B_size]; simp; omega
    have hz := bt_at1 p r x
    refine Ev.step (fun k => ?_) hj
    simp only [incipitref03_Label.l0]
    rw [if_pos hsz, if_pos (by omega), hz]
    have hw := whB_int x
    by_cases h1 : (x.toNat : Int) = 32
    · rw [if_pos h1, hw.2 (.inl h1)]
    · rw [if_neg h1]
      by_cases h2 : (x.toNat : Int) ≥ 9
      · rw [if_pos h2]
        by_cases h3 : (x.toNat : Int) ≤ 13
        · rw [hw.2 (.inr ⟨h2, h3⟩), decide_eq_true h3]
        · rw [show whB x = false from Bool.eq_false_iff.2 (fun e => by rcases hw.1 e with e | e; exact h1 e; exact h3 e.2), decide_eq_false h3]
      · rw [if_neg h2, show whB x = false from Bool.eq_false_iff.2 (fun e => by rcases hw.1 e with e | e; exact h1 e; exact h2 e.1)]
theorem rlbl_ev (s : List UInt8) (h : s.length ≤ 20000) : Ev (fun k => incipitref03_Label.f k (B s)) (B (lbl s)) := by
  have := rlab_l s [] [] false (by simpa using h) (by simp)
  rw [cl_jn] at this
  exact this
end Go.Proofs.YtekifcbokdidlaaGreatDoor.Pure

namespace Go.Proofs.YtekifcbokdidlaaGreatDoor.PA
open Go.RowKit Go.Shelf Go.Proofs.YtekifcbokdidlaaGreatDoor.Pl Go.Proofs.YtekifcbokdidlaaGreatDoorW.PrintWords Go.Proofs.YtekifcbokdidlaaGreatDoorW.PrintLast Go.Proofs.YtekifcbokdidlaaGreatDoorW.PrintMore
set_option linter.unusedVariables false

theorem flat_at : ∀ (l : List S26) (n : Nat) (u : Value), (l.flatMap encR3)[n]? = some u → ∃ j i x, n = j * 3 + i ∧ l[j]? = some x ∧ (encR3 x)[i]? = some u
  | [], n, u, h => by simp at h
  | x :: l, n, u, h => by
    rw [List.flatMap_cons] at h
    by_cases hn : n < 3
    · rw [List.getElem?_append_left hn] at h
      exact ⟨0, n, x, by omega, rfl, h⟩
    · rw [List.getElem?_append_right (show (encR3 x).length ≤ n from by show 3 ≤ n; omega)] at h
      obtain ⟨j, i, y, h1, h2, h3⟩ := flat_at l (n - 3) u h
      exact ⟨j + 1, i, y, by omega, h2, h3⟩
theorem flat_len : ∀ (l : List S26), (l.flatMap encR3).length = l.length * 3
  | [] => rfl
  | x :: l => by rw [List.flatMap_cons, List.length_append, flat_len l, List.length_cons]; show 3 + _ = _; omega
theorem flat_one : ∀ (l : List S26), ∀ u ∈ l.flatMap encR3, u.oneCell' = true := by
  intro l u hu
  obtain ⟨x, _, hx⟩ := List.mem_flatMap.1 hu
  simp [encR3] at hx
  rcases hx with rfl | rfl | rfl <;> simp [Value.oneCell']
theorem flat_cells {w : World} {ad : Addr} {l : List S26} (h : Kd.C k26 w (some ad) l.length l) : ∀ j u, (l.flatMap encR3)[j]? = some u → w.cell? (ad.add j) = some u := by
  intro n u hn
  obtain ⟨j, i, x, rfl, hx, hi⟩ := flat_at l n u hn
  have h0 : 0 < l.length := by have := (List.getElem?_eq_some_iff.1 hx).1; omega
  obtain ⟨ad', e, hc⟩ := h.2.2 h0
  obtain rfl := Option.some.inj e
  obtain ⟨c, _, hr, hcx⟩ := hc j x hx
  obtain rfl := k26_open hr
  exact hcx i u hi
set_option maxRecDepth 100000 in
set_option maxHeartbeats 2000000 in
theorem clone_walk (A : Option Addr) (c : Nat) (l : List S26) (w : World) (hC : Kd.C k26 w A l.length l) (hl : l.length ≤ 1048576) :
    Calls Tryz.prog 23 #[.slice A l.length c] w fun e w' => ∃ v, e = .returned v ∧ w'.ownsRow w.heap.size 26 3 v l.length (l.flatMap encR3) ∧ Below w.heap.size w w' := by
  have q22 : ∀ (w : World) (a : Option Addr) (n c n' c' : Nat), (binOp .eql 22 (.slice a n c) (.slice none n' c')).run Tryz.prog w = .ok (.bool a.isNone) w := fun w a n c n' c' => Lib.run_eql_slice_nil w _ _ a n c n' c' Tryz.underlying22
  obtain ⟨i0, hi, hi0, hi1, hi2⟩ := info_parts infoR
  cases A with
  | none =>
    have h0 : l.length = 0 := by
      rcases Nat.eq_zero_or_pos l.length with h | h
      · exact h
      · obtain ⟨ad, e, _⟩ := hC.2.2 h
        cases e
    obtain rfl := List.length_eq_zero_iff.1 h0
    go_enter Tryz.func23, Tryz.ntmps23
    go_wp2
    go_ret
    exact ⟨_, rfl, World.ownsRow_nil _ _ _ _, Below.refl _ _⟩
  | some ad =>
    have hcl := flat_cells hC
    have hfl := flat_len l
    have hfo := flat_one l
    obtain ⟨news, hnews⟩ : ∃ news, news = l.flatMap encR3 := ⟨_, rfl⟩
    rw [← hnews] at hcl hfl hfo ⊢
    obtain ⟨n, hn⟩ : ∃ n, n = l.length := ⟨_, rfl⟩
    rw [← hn] at hl hfl ⊢
    have A9 := Lib.hid hcl
    have A8 := Lib.hid hfo
    clear hnews hn hC hcl hfo
    go_enter Tryz.func23, Tryz.ntmps23
    go_wp2_with (at_builtin; refine wpList_append_own _ rfl _ _ 22 rfl w.heap.size 26 i0 (.agg #[.string ⟨#[]⟩, .string ⟨#[]⟩, .string ⟨#[]⟩]) 3 48 Tryz.underlying22 hi hi0 hi1 hi2 rfl (by decide) _ _ _ rfl (World.ownsRow_made w #[] 0 (Nat.le_refl _) (Nat.zero_le _) (by simp)) ad n c news rfl ?qc1 ?qc2 ?qc3 ?qc4 ?qc5 ?qc6 ?_)
    case qc1 => exact hfl
    case qc2 => exact fun j u hj => Lib.cell?_alloc_some _ (A9.out j u hj)
    case qc3 => exact A8.out
    case qc4 => simp only [maxLen]; omega
    case qc5 => omega
    case qc6 => simp
    intro v' w1 hown hgrow _
    go_wp2
    go_ret
    exact ⟨v', rfl, by simpa using hown, ((Below.refl _ w).alloc (Nat.le_refl _) _).grown hgrow (by simp) (by intro k hk; simp [Value.ownBlock] at hk; omega)⟩
/-- The closure of refs.Add: has that definition the same label? -/
theorem add_pred (x y z : ByteArray) (b : Nat) (w : World) (hb : b < w.heap.size) (hc : w.heap[b]? = some (.cells #[.string x, .string y, .string z] 26 (0, 0))) :
    PredBelow Tryz.prog 25 #[.pointer (some ⟨b, 0, none⟩)] (fun y => .agg (encR3 y).toArray) (fun y => y.f0.toList == x.toList) w := fun W y hB => by
  have hc2 := (row3_facts ((hB.block _ hb).trans hc)).1
  have hbW : b < W.heap.size := Nat.lt_of_lt_of_le hb hB.size
  have hne : b ≠ W.heap.size := by omega
  show Calls Tryz.prog 25 #[.agg #[.string y.f0, .string y.f1, .string y.f2], .pointer (some ⟨b, 0, none⟩)] W _
  go_enter Tryz.func25, Tryz.ntmps25
  go_wp2
  go_ret
  exact ⟨rfl, hB.alloc hB.size _⟩
theorem idx_any (p : S26 → Bool) (l : List S26) : decide (0 ≤ Lib.idxBy (fun _ y => p y) l default) = l.any p := by
  unfold Lib.idxBy
  rcases idx_from p l 0 with ⟨h1, h2⟩ | ⟨k, hk, h1, h2⟩
  · rw [h2]
    have : l.any p = false := by
      rw [List.find?_eq_none] at h1
      rw [List.any_eq_false]
      exact fun x hx => h1 x hx
    rw [this]
    rfl
  · rw [h2]
    have : l.any p = true := by
      have hm := List.find?_some h1
      rw [List.any_eq_true]
      exact ⟨_, List.mem_of_find?_eq_some h1, hm⟩
    rw [this]
    exact decide_eq_true (by omega)
theorem contains_walk (A0 : Option Addr) (c0 : Nat) (l : List S26) (p : S26 → Bool) (g : Nat) (lb : Array Value) (eg : ∀ args w, (callFunc g args).run Tryz.prog w = .ok (.enter g args) w) (w : World)
    (hp : PredBelow Tryz.prog g lb (fun x => .agg (encR3 x).toArray) p w) (hC : Kd.C k26 w A0 l.length l) :
    Calls Tryz.prog 24 #[.slice A0 l.length c0, .func (.func g) #[] lb] w fun e w' => e = .returned (.bool (l.any p)) ∧ Below w.heap.size w w' := by
  have h := Lib.hid (idx_walk A0 c0 l p g lb eg w hp hC)
  have ha := idx_any p l
  go_enter Tryz.func24, Tryz.ntmps24
  go_wp2_with fail
  refine h.out.mono ?_
  rintro e w' ⟨rfl, hb⟩
  go_wp2
  go_ret
  exact ⟨by rw [← ha]; rfl, hb⟩
/-- Definitions behind others: those whose label is new. -/
def addL : List S26 → List S26 → List S26
  | out, [] => out
  | out, r :: m => if out.any (fun y => y.f0.toList == r.f0.toList) = true then addL out m else addL (out ++ [r]) m
theorem addL_len : ∀ (m out : List S26), (addL out m).length ≤ out.length + m.length
  | [], out => by rw [addL]; simp
  | r :: m, out => by
    rw [addL]
    split
    · have := addL_len m out; simp; omega
    · have := addL_len m (out ++ [r]); simp at this ⊢; omega
set_option maxRecDepth 100000 in
set_option maxHeartbeats 4000000 in
theorem add_walk (A0 : Option Addr) (c0 : Nat) (l0 : List S26) (A1 : Option Addr) (c1 : Nat) (l1 : List S26) (w : World) (hC0 : Kd.C k26 w A0 l0.length l0) (hC1 : Kd.C k26 w A1 l1.length l1) (hl : l0.length + l1.length ≤ 1000000) :
    Calls Tryz.prog 13 #[.slice A0 l0.length c0, .slice A1 l1.length c1] w fun e w' => ∃ v, e = .returned v ∧ w'.ownsRow w.heap.size 26 3 v (addL l0 l1).length ((addL l0 l1).flatMap encR3) ∧ Below w.heap.size w w' := by
  obtain ⟨i0, hi, hi0, hi1, hi2⟩ := info_parts infoR
  have hcl := Lib.hid (clone_walk A0 c0 l0 w hC0 (by omega))
  have HC1 := Lib.hid hC1
  obtain ⟨R, hR⟩ : ∃ R, addL l0 l1 = R := ⟨_, rfl⟩
  rw [hR]
  have HR := Lib.hid hR
  clear hC0 hC1 hR
  go_enter Tryz.func13, Tryz.ntmps13
  go_wp2_with fail
  refine hcl.out.mono ?_
  rintro e w1 ⟨v, rfl, hown, hb⟩
  have HO := Lib.hid hown
  have HB := Lib.hid hb
  clear hown hb hcl
  go_wp2_with fail
  go_loopw [5, 12] (fun v5 v12 wr => ∃ (i : Nat) (out : List S26), v12 = .int .i64 (i : Int) ∧ i ≤ l1.length ∧ Hid (addL out (l1.drop i) = R) ∧ out.length ≤ l0.length + i ∧ Hid (wr.ownsRow w.heap.size 26 3 v5 out.length (out.flatMap encR3)) ∧ Hid (Below w.heap.size w wr))
    (fun _ v12 _ => l1.length - (intOf v12).toNat)
  case atStart => exact ⟨0, l0, rfl, Nat.zero_le _, HR, Nat.le_refl _, HO, HB⟩
  case round =>
    clear HO HB HR
    obtain ⟨i, out, rfl, hil, HE, hol, HO, HB⟩ := hrel
    by_cases hlt : i < l1.length
    · have hCw := Kd.C_below HC1.out HB.out
      obtain ⟨ad, rfl, q0, q1, q2⟩ := at_T26 hCw (i : Int) (by omega) (by omega)
      rw [Int.toNat_natCast] at q0 q1 q2
      obtain ⟨x, hx⟩ : ∃ x, rd_T26 l1 (i : Int) = x := ⟨_, rfl⟩
      have hx1 : l1[i] = x := by
        rw [← hx]
        unfold rd_T26
        rw [Int.toNat_natCast, List.getD_eq_getElem?_getD, List.getElem?_eq_getElem hlt]
        rfl
      rw [hx] at q0 q1 q2
      clear hx hCw
      have hE := HE.out
      rw [List.drop_eq_getElem_cons hlt, hx1, addL] at hE
      clear hx1 HE
      obtain ⟨A, c, rfl, hc, hCo⟩ := Kd.R_reads (refs_R HO.out)
      have HCo := Lib.hid hCo
      clear hCo
      have hr1 := heap_alloc_new wr (.cells #[.string x.f0, .string x.f1, .string x.f2] 26)
      have hwl : wr.heap.size < (wr.alloc (.cells #[.string x.f0, .string x.f1, .string x.f2] 26)).heap.size := by simp
      have hbA : Below wr.heap.size wr (wr.alloc (.cells #[.string x.f0, .string x.f1, .string x.f2] 26)) := below_alloc (Below.refl _ _) _
      have HK := Lib.hid (contains_walk A c out (fun y => y.f0.toList == x.f0.toList) 25 #[.pointer (some ⟨wr.heap.size, 0, none⟩)] (enters_of Tryz.func25 (by kernel_rfl) rfl) _ (add_pred x.f0 x.f1 x.f2 wr.heap.size _ hwl hr1) (Kd.C_below HCo.out hbA))
      have HR1 := Lib.hid hr1
      have HBA := Lib.hid hbA
      clear hr1 hbA
      go_wp2_with fail
      refine HK.out.mono ?_
      rintro e w3 ⟨rfl, hb3⟩
      have hbb := HBA.out.trans (hb3.mono (Nat.le_of_lt hwl))
      have HB3 := Lib.hid (HB.out.trans (hbb.mono HB.out.size))
      have HO3 := Lib.hid (pw_own_below HO.out hbb)
      have hr3 := (hb3.block _ hwl).trans HR1.out
      have hz3 := hbb.size
      have hz0 := HB.out.size
      have hwl3 := Nat.lt_of_lt_of_le hwl hb3.size
      obtain ⟨p0, p1, p2, g0, g1, g2⟩ := row3_facts hr3
      clear HK HB HO HR1 HBA hbb hb3 hr3 q0 q1 q2
      cases hp : out.any (fun y => y.f0.toList == x.f0.toList) with
      | true =>
        rw [if_pos hp] at hE
        have HE := Lib.hid hE
        clear hE
        go_wp2
        go_roundw
        case rel => exact ⟨i + 1, out, by simp, by omega, HE, by omega, HO3, HB3⟩
        case measure => simp [intOf]; omega
      | false =>
        rw [if_neg (by rw [hp]; decide)] at hE
        have HE := Lib.hid hE
        clear hE
        go_wp2_with (at_builtin; refine wpList_append_own _ rfl _ _ 22 rfl w.heap.size 26 i0 (.agg #[.string ⟨#[]⟩, .string ⟨#[]⟩, .string ⟨#[]⟩]) 3 48 Tryz.underlying22 hi hi0 hi1 hi2 rfl (by decide) _ _ _ rfl (HO3.out.alloc _) ⟨w3.heap.size, 0, none⟩ 1 1 [.string x.f0, .string x.f1, .string x.f2] rfl rfl (cell_three_new _ _ _ _ _) (by simp [Value.oneCell']) (by simp only [maxLen]; omega) (by omega) (by simp; omega) ?_; intro v' w4 hown' hgrow _)
        have HO4 : Hid (w4.ownsRow w.heap.size 26 3 v' (out ++ [x]).length ((out ++ [x]).flatMap encR3)) := by
          refine Lib.hid ?_
          rw [List.length_append, List.length_singleton, List.flatMap_append, List.flatMap_singleton]
          exact hown'
        have HB4 : Hid (Below w.heap.size w w4) := Lib.hid ((HB3.out.alloc HB3.out.size _).grown hgrow (by simp; omega) (fun k hk => own_base HO3.out k hk))
        clear hown' hgrow
        go_wp2
        go_roundw
        case rel => exact ⟨i + 1, out ++ [x], by simp, by omega, HE, by simp; omega, HO4, HB4⟩
        case measure => simp [intOf]; omega
    · have hE := HE.out
      rw [List.drop_eq_nil_of_le (by omega), addL] at hE
      subst hE
      go_wp2
      go_ret
      exact ⟨_, rfl, HO.out, HB.out⟩
/-- refs.Add in plain words. -/
def refs_Add.f (l0 l1 : List S26) : Option (List S26) := if l0.length + l1.length ≤ 1000000 then some (addL l0 l1) else none
theorem refs_Add.calls (A0 : Option Addr) (c0 : Nat) (l0 : List S26) (A1 : Option Addr) (c1 : Nat) (l1 : List S26) (r1 : List S26) (w : World) (hLd : Laid w)
    (hr0 : Kd.C k26 w A0 l0.length l0) (hc0 : l0.length ≤ c0) (hr1 : Kd.C k26 w A1 l1.length l1) (hc1 : l1.length ≤ c1) (h : refs_Add.f l0 l1 = some r1) :
    Calls Tryz.prog 13 #[.slice A0 l0.length c0, .slice A1 l1.length c1] w fun e w' => ∃ v0_, e = .returned v0_ ∧ Kd.R k26 26 w' w.heap.size (fun _ => True) v0_ r1 ∧ Below w.heap.size w w' := by
  unfold refs_Add.f at h
  by_cases hl : l0.length + l1.length ≤ 1000000
  · rw [if_pos hl] at h
    obtain rfl := Option.some.inj h
    refine (add_walk A0 c0 l0 A1 c1 l1 w hr0 hr1 hl).mono ?_
    rintro e w' ⟨v, rfl, ho, hb⟩
    exact ⟨v, rfl, refs_R ho, hb⟩
  · rw [if_neg hl] at h
    cases h
end Go.Proofs.YtekifcbokdidlaaGreatDoor.PA
