-- printed by the kit's printer, turned by a program of this session (wip/tools/mkprint.py)
import Derived.Test.YtddmddlaamcpiaaDoorPAx0
import Derived.Test.YtddmddlaamcpiaaDoorPAx4
import Derived.Test.YtddmddlaamcpiaaDoorGLib
import Derived.Test.YtddmddlaamcpiaaDoorGIdx
import Derived.Test.YtddmddlaamcpiaaDoorGTrims
import Derived.Test.YtddmddlaamcpiaaDoorGMax
namespace Go.Proofs.YtddmddlaamcpiaaDoor.PA
open Go.RowKit Go.Proofs.YtddmddlaamcpiaaDoorW.PrintWords Go.Proofs.YtddmddlaamcpiaaDoorW.PrintLast Go.Proofs.YtddmddlaamcpiaaDoorW.PrintMore
attribute [local go_sem] max2_int min2_int max_two min_two max_three min_three max_four min_four   -- for this text's walks alone
set_option linter.unusedVariables false
set_option linter.unusedSimpArgs false

/-! ### incipitlaw17_AutoPlain: function 4 -/
mutual
def incipitlaw17_AutoPlain.j0 : Nat → ByteArray → ByteArray → Bool → Bool → Option (Bool)
  | 0, _, _, _, _ => none
  | k + 1, x0, x1, x5, x26 => if x26 = true then (some x5) else (incipitlaw17_AutoPlain.l0 k x0 x1 x5 0)
def incipitlaw17_AutoPlain.l0 : Nat → ByteArray → ByteArray → Bool → Int → Option (Bool)
  | 0, _, _, _, _ => none
  | k + 1, x0, x1, x5, x6 => if x0.size + x1.size ≤ 9223372036854775807 then (if x6 < ((x0 ++ x1).size : Int) then (if 0 ≤ x6 then (if (bt (x0 ++ x1) x6) < 97 then (some x5) else (if (bt (x0 ++ x1) x6) > 122 then (some x5) else (incipitlaw17_AutoPlain.l0 k x0 x1 x5 (wrap64 (x6 + 1))))) else (none)) else (if 4 + x0.size ≤ 9223372036854775807 then (if ((⟨#[119, 119, 119, 46]⟩ : ByteArray) ++ x0).size + 1 ≤ 9223372036854775807 then (if (((⟨#[119, 119, 119, 46]⟩ : ByteArray) ++ x0) ++ (⟨#[46]⟩ : ByteArray)).size + x1.size ≤ 9223372036854775807 then (if 8 + x0.size ≤ 9223372036854775807 then (if ((⟨#[104, 116, 116, 112, 115, 58, 47, 47]⟩ : ByteArray) ++ x0).size + 1 ≤ 9223372036854775807 then (if (((⟨#[104, 116, 116, 112, 115, 58, 47, 47]⟩ : ByteArray) ++ x0) ++ (⟨#[46]⟩ : ByteArray)).size + x1.size ≤ 9223372036854775807 then (if x0.size + 1 ≤ 9223372036854775807 then (if (x0 ++ (⟨#[64]⟩ : ByteArray)).size + x1.size ≤ 9223372036854775807 then (if ((x0 ++ (⟨#[64]⟩ : ByteArray)) ++ x1).size + 2 ≤ 9223372036854775807 then (if (x0 ++ (⟨#[32]⟩ : ByteArray)).size + ((((⟨#[119, 119, 119, 46]⟩ : ByteArray) ++ x0) ++ (⟨#[46]⟩ : ByteArray)) ++ x1).size ≤ 9223372036854775807 then (if ((x0 ++ (⟨#[32]⟩ : ByteArray)) ++ ((((⟨#[119, 119, 119, 46]⟩ : ByteArray) ++ x0) ++ (⟨#[46]⟩ : ByteArray)) ++ x1)).size + 2 ≤ 9223372036854775807 then (if (((x0 ++ (⟨#[32]⟩ : ByteArray)) ++ ((((⟨#[119, 119, 119, 46]⟩ : ByteArray) ++ x0) ++ (⟨#[46]⟩ : ByteArray)) ++ x1)) ++ (⟨#[32, 40]⟩ : ByteArray)).size + ((((⟨#[104, 116, 116, 112, 115, 58, 47, 47]⟩ : ByteArray) ++ x0) ++ (⟨#[46]⟩ : ByteArray)) ++ x1).size ≤ 9223372036854775807 then (if ((((x0 ++ (⟨#[32]⟩ : ByteArray)) ++ ((((⟨#[119, 119, 119, 46]⟩ : ByteArray) ++ x0) ++ (⟨#[46]⟩ : ByteArray)) ++ x1)) ++ (⟨#[32, 40]⟩ : ByteArray)) ++ ((((⟨#[104, 116, 116, 112, 115, 58, 47, 47]⟩ : ByteArray) ++ x0) ++ (⟨#[46]⟩ : ByteArray)) ++ x1)).size + 2 ≤ 9223372036854775807 then (if (((((x0 ++ (⟨#[32]⟩ : ByteArray)) ++ ((((⟨#[119, 119, 119, 46]⟩ : ByteArray) ++ x0) ++ (⟨#[46]⟩ : ByteArray)) ++ x1)) ++ (⟨#[32, 40]⟩ : ByteArray)) ++ ((((⟨#[104, 116, 116, 112, 115, 58, 47, 47]⟩ : ByteArray) ++ x0) ++ (⟨#[46]⟩ : ByteArray)) ++ x1)) ++ (⟨#[41, 32]⟩ : ByteArray)).size + (((x0 ++ (⟨#[64]⟩ : ByteArray)) ++ x1) ++ (⟨#[46, 99]⟩ : ByteArray)).size ≤ 9223372036854775807 then (if ((((((x0 ++ (⟨#[32]⟩ : ByteArray)) ++ ((((⟨#[119, 119, 119, 46]⟩ : ByteArray) ++ x0) ++ (⟨#[46]⟩ : ByteArray)) ++ x1)) ++ (⟨#[32, 40]⟩ : ByteArray)) ++ ((((⟨#[104, 116, 116, 112, 115, 58, 47, 47]⟩ : ByteArray) ++ x0) ++ (⟨#[46]⟩ : ByteArray)) ++ x1)) ++ (⟨#[41, 32]⟩ : ByteArray)) ++ (((x0 ++ (⟨#[64]⟩ : ByteArray)) ++ x1) ++ (⟨#[46, 99]⟩ : ByteArray))).size + 2 ≤ 9223372036854775807 then (if (((((((x0 ++ (⟨#[32]⟩ : ByteArray)) ++ ((((⟨#[119, 119, 119, 46]⟩ : ByteArray) ++ x0) ++ (⟨#[46]⟩ : ByteArray)) ++ x1)) ++ (⟨#[32, 40]⟩ : ByteArray)) ++ ((((⟨#[104, 116, 116, 112, 115, 58, 47, 47]⟩ : ByteArray) ++ x0) ++ (⟨#[46]⟩ : ByteArray)) ++ x1)) ++ (⟨#[41, 32]⟩ : ByteArray)) ++ (((x0 ++ (⟨#[64]⟩ : ByteArray)) ++ x1) ++ (⟨#[46, 99]⟩ : ByteArray))) ++ (⟨#[44, 32]⟩ : ByteArray)).size + x1.size ≤ 9223372036854775807 then ((auto_Find.f k ((((((((x0 ++ (⟨#[32]⟩ : ByteArray)) ++ ((((⟨#[119, 119, 119, 46]⟩ : ByteArray) ++ x0) ++ (⟨#[46]⟩ : ByteArray)) ++ x1)) ++ (⟨#[32, 40]⟩ : ByteArray)) ++ ((((⟨#[104, 116, 116, 112, 115, 58, 47, 47]⟩ : ByteArray) ++ x0) ++ (⟨#[46]⟩ : ByteArray)) ++ x1)) ++ (⟨#[41, 32]⟩ : ByteArray)) ++ (((x0 ++ (⟨#[64]⟩ : ByteArray)) ++ x1) ++ (⟨#[46, 99]⟩ : ByteArray))) ++ (⟨#[44, 32]⟩ : ByteArray)) ++ x1)).bind fun t161 => (if x5 = true then (if (x0 ++ (⟨#[32]⟩ : ByteArray)).size + x1.size ≤ 9223372036854775807 then ((auto_Find.f k ((x0 ++ (⟨#[32]⟩ : ByteArray)) ++ x1)).bind fun t164 => (if (t164.length : Int) = 0 then (if (t161.length : Int) = 3 then (if 0 < (t161.length : Int) then (if 7 + ((((⟨#[119, 119, 119, 46]⟩ : ByteArray) ++ x0) ++ (⟨#[46]⟩ : ByteArray)) ++ x1).size ≤ 9223372036854775807 then (if ((rd_T26 t161 0).f2).toList = ((⟨#[104, 116, 116, 112, 58, 47, 47]⟩ : ByteArray) ++ ((((⟨#[119, 119, 119, 46]⟩ : ByteArray) ++ x0) ++ (⟨#[46]⟩ : ByteArray)) ++ x1)).toList then (if 1 < (t161.length : Int) then (if ((rd_T26 t161 1).f2).toList = ((((⟨#[104, 116, 116, 112, 115, 58, 47, 47]⟩ : ByteArray) ++ x0) ++ (⟨#[46]⟩ : ByteArray)) ++ x1).toList then (if 2 < (t161.length : Int) then (if 7 + (((x0 ++ (⟨#[64]⟩ : ByteArray)) ++ x1) ++ (⟨#[46, 99]⟩ : ByteArray)).size ≤ 9223372036854775807 then (some (((rd_T26 t161 2).f2).toList == ((⟨#[109, 97, 105, 108, 116, 111, 58]⟩ : ByteArray) ++ (((x0 ++ (⟨#[64]⟩ : ByteArray)) ++ x1) ++ (⟨#[46, 99]⟩ : ByteArray))).toList)) else (none)) else (none)) else (some false)) else (none)) else (some false)) else (none)) else (none)) else (some false)) else (some false))) else (none)) else (some false))) else (none)) else (none)) else (none)) else (none)) else (none)) else (none)) else (none)) else (none)) else (none)) else (none)) else (none)) else (none)) else (none)) else (none)) else (none)) else (none))) else (none)
end
def incipitlaw17_AutoPlain.f (k : Nat) (a0 : ByteArray) (a1 : ByteArray) : Option (Bool) := (incipitlaw17_awake.f k).bind fun t160 => (if a0.toList = ([] : List UInt8) then (incipitlaw17_AutoPlain.j0 k a0 a1 t160 true) else (if a1.toList = ([] : List UInt8) then (incipitlaw17_AutoPlain.j0 k a0 a1 t160 true) else (incipitlaw17_AutoPlain.j0 k a0 a1 t160 (decide ((wrap64 ((a0.size : Int) + (a1.size : Int))) > 300)))))
theorem incipitlaw17_AutoPlain.mono_l : ∀ k, (∀ y0 y1 y2 y3, LeO (incipitlaw17_AutoPlain.j0 k y0 y1 y2 y3) (incipitlaw17_AutoPlain.j0 (k + 1) y0 y1 y2 y3)) ∧ (∀ y0 y1 y2 y3, LeO (incipitlaw17_AutoPlain.l0 k y0 y1 y2 y3) (incipitlaw17_AutoPlain.l0 (k + 1) y0 y1 y2 y3))
  | 0 => ⟨fun _ _ _ _ r h => by simp [incipitlaw17_AutoPlain.j0] at h, fun _ _ _ _ r h => by simp [incipitlaw17_AutoPlain.l0] at h⟩
  | k + 1 => by
    obtain ⟨ih0, ih1⟩ := incipitlaw17_AutoPlain.mono_l k
    refine ⟨?_, ?_⟩
    · intro y0 y1 y2 y3
      unfold incipitlaw17_AutoPlain.j0
      repeat' first
      | (with_reducible exact ih0 _ _ _ _)
      | (with_reducible exact ih1 _ _ _ _)
      | (with_reducible exact auto_Find.mono _ _)
      | (with_reducible exact incipitlaw17_awake.mono _)
      | (with_reducible exact LeO.refl _)
      | (with_reducible exact LeO.none _)
      | (with_reducible refine LeO.ite ?_ ?_)
      | (with_reducible refine LeO.bind ?_ (fun _ => ?_))
      | exact ih0 _ _ _ _
      | exact ih1 _ _ _ _
      | exact auto_Find.mono _ _
      | exact incipitlaw17_awake.mono _
      | exact LeO.none _
      | refine LeO.ite ?_ ?_
      | refine LeO.bind ?_ (fun _ => ?_)
    · intro y0 y1 y2 y3
      unfold incipitlaw17_AutoPlain.l0
      repeat' first
      | (with_reducible exact ih0 _ _ _ _)
      | (with_reducible exact ih1 _ _ _ _)
      | (with_reducible exact auto_Find.mono _ _)
      | (with_reducible exact incipitlaw17_awake.mono _)
      | (with_reducible exact LeO.refl _)
      | (with_reducible exact LeO.none _)
      | (with_reducible refine LeO.ite ?_ ?_)
      | (with_reducible refine LeO.bind ?_ (fun _ => ?_))
      | exact ih0 _ _ _ _
      | exact ih1 _ _ _ _
      | exact auto_Find.mono _ _
      | exact incipitlaw17_awake.mono _
      | exact LeO.none _
      | refine LeO.ite ?_ ?_
      | refine LeO.bind ?_ (fun _ => ?_)
theorem incipitlaw17_AutoPlain.mono : ∀ a0 a1 k, LeO (incipitlaw17_AutoPlain.f k a0 a1) (incipitlaw17_AutoPlain.f (k + 1) a0 a1) := by
  intro a0 a1 k
  obtain ⟨ih0, ih1⟩ := incipitlaw17_AutoPlain.mono_l k
  unfold incipitlaw17_AutoPlain.f
  repeat' first
      | (with_reducible exact ih0 _ _ _ _)
      | (with_reducible exact ih1 _ _ _ _)
      | (with_reducible exact auto_Find.mono _ _)
      | (with_reducible exact incipitlaw17_awake.mono _)
      | (with_reducible exact LeO.refl _)
      | (with_reducible exact LeO.none _)
      | (with_reducible refine LeO.ite ?_ ?_)
      | (with_reducible refine LeO.bind ?_ (fun _ => ?_))
      | exact ih0 _ _ _ _
      | exact ih1 _ _ _ _
      | exact auto_Find.mono _ _
      | exact incipitlaw17_awake.mono _
      | exact LeO.none _
      | refine LeO.ite ?_ ?_
      | refine LeO.bind ?_ (fun _ => ?_)
set_option maxHeartbeats 8000000 in
set_option maxRecDepth 100000 in
theorem incipitlaw17_AutoPlain.calls (k : Nat) (a0 : ByteArray) (a1 : ByteArray) (r : Bool) (w : World) (hLd : Laid w) (h : incipitlaw17_AutoPlain.f k a0 a1 = some r) :
    Calls Tryd.prog 4 #[.string a0, .string a1] w fun e w' => e = .returned (.bool r) ∧ Below w.heap.size w w' := by
  have HB := Aside0.mk (Below.refl w.heap.size w)
  have H : ((incipitlaw17_awake.f k).bind fun t160 => (if a0.toList = ([] : List UInt8) then (incipitlaw17_AutoPlain.j0 k a0 a1 t160 true) else (if a1.toList = ([] : List UInt8) then (incipitlaw17_AutoPlain.j0 k a0 a1 t160 true) else (incipitlaw17_AutoPlain.j0 k a0 a1 t160 (decide ((wrap64 ((a0.size : Int) + (a1.size : Int))) > 300)))))) = some r := h
  clear h
  replace H := Option.bind_eq_some_iff.mp H
  obtain ⟨t160, A30, H⟩ := H
  replace H : (if a0.toList = ([] : List UInt8) then (incipitlaw17_AutoPlain.j0 k a0 a1 t160 true) else (if a1.toList = ([] : List UInt8) then (incipitlaw17_AutoPlain.j0 k a0 a1 t160 true) else (incipitlaw17_AutoPlain.j0 k a0 a1 t160 (decide ((wrap64 ((a0.size : Int) + (a1.size : Int))) > 300))))) = some r := H
  have A3 := Aside0.mk A30
  clear A30
  have HC4 := Aside0.mk H
  clear H
  go_enter Tryd.func4, Tryd.ntmps4
  go_upto_region 2 with (first | ((with_reducible refine gate_callee (f := 8) rfl ?_); refine goesL_ (some 12) rfl rfl Tryd.func8 (by kernel_rfl) rfl #[] rfl (by (try simp only [List.map_toArray, List.map_cons, List.map_nil]); first | done | rfl | (simp only [List.length_drop, List.length_take]; rfl)) ?_; (with_reducible refine (incipitlaw17_awake.calls k  t160 _ ?side1 A3.out).mono ?_); (case side1 => exact Laid.go hLd (by repeat (first | (with_reducible first | exact HB.out | apply below_alloc | apply pw_below_drewN | apply below_drew1) | exact HB.out))); rintro e w5 ⟨rfl, hb⟩; refine ⟨_, rfl, ?_⟩; have n0_ := Aside0.mk (below_step (by repeat (first | (with_reducible first | exact HB.out | apply below_alloc | apply pw_below_drewN | apply below_drew1) | exact HB.out)) hb); clear HB; have HB := n0_; clear n0_; (try clear hb); (try clear hb2); (try clear hk); (try clear hi)))
  (try simp only [Act.put, List.setIfInBounds_toArray, List.set_cons_zero, List.set_cons_succ])
  go_cut [26] (fun v26 wc => ∃ (kq : Nat) (x26_3 : Bool), v26 = .bool x26_3 ∧ Aside0 (incipitlaw17_AutoPlain.j0 kq a0 a1 t160 x26_3 = some r) ∧ Aside0 (kq ≤ k) ∧ Aside0 (Below w.heap.size w wc))
  case first =>
    have H := HC4.out
    clear HC4
    by_cases c6 : a0.toList = ([] : List UInt8)
    · rw [if_pos c6] at H
      have c6b0 : (a0.toList == ([] : List UInt8)) = true := beq_iff_eq.mpr c6
      have c6b1 : (a0.toList != ([] : List UInt8)) = false := bne_eq_false_iff_eq.mpr c6
      clear c6
      (first | rw [c6b0] | (simp only [i64_w, i32_w]; rw [c6b0]) | skip)
      have H' := Aside0.mk H
      clear H
      go_wp2
      go_meet
      case rel => exact ⟨_, (true), (by first | rfl | (simp; done) | (simp [*]; done)), H', ⟨by first | omega | exact Nat.le_refl _⟩, ⟨by repeat (first | (with_reducible first | exact HB.out | apply below_alloc | apply pw_below_drewN | apply below_drew1) | exact HB.out)⟩⟩
    · rw [if_neg c6] at H
      have c6b0 : (a0.toList == ([] : List UInt8)) = false := beq_eq_false_iff_ne.mpr c6
      have c6b1 : (a0.toList != ([] : List UInt8)) = true := bne_iff_ne.mpr c6
      (first | rw [c6b0] | (simp only [i64_w, i32_w]; rw [c6b0]) | skip)
      by_cases c7 : a1.toList = ([] : List UInt8)
      · rw [if_pos c7] at H
        have c7b0 : (a1.toList == ([] : List UInt8)) = true := beq_iff_eq.mpr c7
        have c7b1 : (a1.toList != ([] : List UInt8)) = false := bne_eq_false_iff_eq.mpr c7
        clear c7
        have H' := Aside0.mk H
        clear H
        go_wp2
        go_meet
        case rel => exact ⟨_, (true), (by first | rfl | (simp; done) | (simp [*]; done)), H', ⟨by first | omega | exact Nat.le_refl _⟩, ⟨by repeat (first | (with_reducible first | exact HB.out | apply below_alloc | apply pw_below_drewN | apply below_drew1) | exact HB.out)⟩⟩
      · rw [if_neg c7] at H
        have c7b0 : (a1.toList == ([] : List UInt8)) = false := beq_eq_false_iff_ne.mpr c7
        have c7b1 : (a1.toList != ([] : List UInt8)) = true := bne_iff_ne.mpr c7
        have H' := Aside0.mk H
        clear H
        go_wp2
        go_meet
        case rel => exact ⟨_, (decide ((wrap64 ((a0.size : Int) + (a1.size : Int))) > 300)), (by first | rfl | (simp; done) | (simp [*]; done)), H', ⟨by first | omega | exact Nat.le_refl _⟩, ⟨by repeat (first | (with_reducible first | exact HB.out | apply below_alloc | apply pw_below_drewN | apply below_drew1) | exact HB.out)⟩⟩
  case rest =>
    clear HC4
    try clear p2
    try clear c4
    try clear c6
    try clear c6b0
    try clear c6b1
    try clear p6
    try clear c7
    try clear c7b0
    try clear c7b1
    obtain ⟨kq, x26_3, rfl, HA, HJ3, HB⟩ := hcut
    cases kq with
    | zero => exact absurd HA.out (by simp [incipitlaw17_AutoPlain.j0])
    | succ kj3 =>
      have H := HA.out
      clear HA
      simp only [incipitlaw17_AutoPlain.j0] at H
      by_cases c8 : x26_3 = true
      · subst c8
        have H1 : (some t160) = some r := by rw [if_pos rfl] at H; exact H
        clear H
        have H := H1
        clear H1
        obtain rfl := Option.some.inj H
        go_wp2
        go_ret
        exact ⟨by first | rfl | (simp [errW_none, errW_some] <;> rfl) | (simp [*, errW_none, errW_some] <;> rfl), by repeat (first | (with_reducible first | exact HB.out | apply below_alloc | apply pw_below_drewN | apply below_drew1) | exact HB.out)⟩
      · replace c8 := Bool.eq_false_iff.mpr c8
        subst c8
        have H1 : (incipitlaw17_AutoPlain.l0 kj3 a0 a1 t160 0) = some r := by rw [if_neg (show ¬ (false = true) by decide)] at H; exact H
        clear H
        have H := H1
        clear H1
        have H' := Aside0.mk H
        clear H
        go_wp2
        go_loopg [6] kj3 (fun kq v6 w' => ∃ (x6_2 : Int), v6 = .int .i64 x6_2 ∧ Aside0 (incipitlaw17_AutoPlain.l0 kq a0 a1 t160 x6_2 = some r) ∧ Aside0 (kq ≤ kj3) ∧ Aside0 (Below w.heap.size w w'))
        case atStart => exact ⟨(0), (by first | rfl | (simp; done) | (simp [*]; done)), H', ⟨Nat.le_refl _⟩, ⟨by repeat (first | (with_reducible first | exact HB.out | apply below_alloc | apply pw_below_drewN | apply below_drew1) | exact HB.out)⟩⟩
        case round =>
          clear H'
          try clear p2
          try clear c4
          try clear c6
          try clear c6b0
          try clear c6b1
          try clear p6
          try clear c7
          try clear c7b0
          try clear c7b1
          try clear c8
          try clear p2
          try clear p6
          obtain ⟨x6_2, rfl, HA, HK2, HB⟩ := hrel
          cases gk with
          | zero => exact absurd HA.out (by simp [incipitlaw17_AutoPlain.l0])
          | succ k2 =>
            have H := HA.out
            clear HA
            simp only [incipitlaw17_AutoPlain.l0] at H
            by_cases c9 : a0.size + a1.size ≤ 9223372036854775807
            · rw [if_pos c9] at H
              have c9b0 := eq_true c9
              have c9b1 : decide (a0.size + a1.size ≤ 9223372036854775807) = true := decide_eq_true c9
              try have c9b2 : (9223372036854775807 < a0.size + a1.size) = False := eq_false (Nat.not_lt.2 c9)
              by_cases c10 : x6_2 < ((a0 ++ a1).size : Int)
              · rw [if_pos c10] at H
                have c10b0 : decide (x6_2 < ((a0 ++ a1).size : Int)) = true := decide_eq_true c10
                have c10b0s := c10b0
                (try simp only [ByteArray.size_append, Int.natCast_add] at c10b0s)
                (try have c10b0t := eq_true (of_decide_eq_true c10b0s))
                clear c10
                by_cases c11 : 0 ≤ x6_2
                · rw [if_pos c11] at H
                  have c11b0 : decide (0 ≤ x6_2) = true := decide_eq_true c11
                  clear c11
                  by_cases c13 : (bt (a0 ++ a1) x6_2) < 97
                  · rw [if_pos c13] at H
                    have c13b0 : decide ((bt (a0 ++ a1) x6_2) < 97) = true := decide_eq_true c13
                    clear c13
                    obtain rfl := Option.some.inj H
                    have p12 : 0 ≤ (x6_2 : Int) := of_decide_eq_true (by first | (with_reducible assumption) | assumption)
                    have q12 : x6_2 < ((a0 ++ a1).size : Int) := of_decide_eq_true (by first | (with_reducible assumption) | assumption)
                    have hx12 := bt_at (a0 ++ a1) x6_2
                    replace p12 := eq_true p12
                    replace q12 := eq_true q12
                    go_wp2
                    go_ret
                    exact ⟨by first | rfl | (simp [errW_none, errW_some] <;> rfl) | (simp [*, errW_none, errW_some] <;> rfl), by repeat (first | (with_reducible first | exact HB.out | apply below_alloc | apply pw_below_drewN | apply below_drew1) | exact HB.out)⟩
                  · rw [if_neg c13] at H
                    have c13b0 : decide ((bt (a0 ++ a1) x6_2) < 97) = false := decide_eq_false c13
                    clear c13
                    by_cases c14 : (bt (a0 ++ a1) x6_2) > 122
                    · rw [if_pos c14] at H
                      have c14b0 : decide (122 < (bt (a0 ++ a1) x6_2)) = true := decide_eq_true c14
                      clear c14
                      obtain rfl := Option.some.inj H
                      have p12 : 0 ≤ (x6_2 : Int) := of_decide_eq_true (by first | (with_reducible assumption) | assumption)
                      have q12 : x6_2 < ((a0 ++ a1).size : Int) := of_decide_eq_true (by first | (with_reducible assumption) | assumption)
                      have hx12 := bt_at (a0 ++ a1) x6_2
                      replace p12 := eq_true p12
                      replace q12 := eq_true q12
                      go_wp2
                      go_ret
                      exact ⟨by first | rfl | (simp [errW_none, errW_some] <;> rfl) | (simp [*, errW_none, errW_some] <;> rfl), by repeat (first | (with_reducible first | exact HB.out | apply below_alloc | apply pw_below_drewN | apply below_drew1) | exact HB.out)⟩
                    · rw [if_neg c14] at H
                      have c14b0 : decide (122 < (bt (a0 ++ a1) x6_2)) = false := decide_eq_false c14
                      clear c14
                      have H' := Aside0.mk H
                      clear H
                      have p12 : 0 ≤ (x6_2 : Int) := of_decide_eq_true (by first | (with_reducible assumption) | assumption)
                      have q12 : x6_2 < ((a0 ++ a1).size : Int) := of_decide_eq_true (by first | (with_reducible assumption) | assumption)
                      have hx12 := bt_at (a0 ++ a1) x6_2
                      replace p12 := eq_true p12
                      replace q12 := eq_true q12
                      go_wp2
                      go_roundg k2
                      case measure => have := HJ3.out; have := HK2.out; omega
                      case rel => exact ⟨(wrap64 (x6_2 + 1)), (by first | rfl | (simp; done) | (simp [*]; done)), H', ⟨by have := HJ3.out; have := HK2.out; omega⟩, ⟨by repeat (first | (with_reducible first | exact HB.out | apply below_alloc | apply pw_below_drewN | apply below_drew1) | exact HB.out)⟩⟩
                · rw [if_neg c11] at H
                  exact absurd H (by simp)
              · rw [if_neg c10] at H
                have c10b0 : decide (x6_2 < ((a0 ++ a1).size : Int)) = false := decide_eq_false c10
                have c10b0s := c10b0
                (try simp only [ByteArray.size_append, Int.natCast_add] at c10b0s)
                (try have c10b0t := eq_true (of_decide_eq_true c10b0s))
                clear c10
                by_cases c15 : 4 + a0.size ≤ 9223372036854775807
                · rw [if_pos c15] at H
                  have c15b0 := eq_true c15
                  have c15b1 : decide (4 + a0.size ≤ 9223372036854775807) = true := decide_eq_true c15
                  try have c15b2 : (9223372036854775807 < 4 + a0.size) = False := eq_false (Nat.not_lt.2 c15)
                  by_cases c16 : ((⟨#[119, 119, 119, 46]⟩ : ByteArray) ++ a0).size + 1 ≤ 9223372036854775807
                  · rw [if_pos c16] at H
                    have c16b0 := eq_true c16
                    have c16b1 : decide (((⟨#[119, 119, 119, 46]⟩ : ByteArray) ++ a0).size + 1 ≤ 9223372036854775807) = true := decide_eq_true c16
                    have c16b4 := c16
                    (try simp only [ByteArray.size_append, ByteArray.size_extract, Nat.min_self] at c16b4)
                    (try have c16b5 := Nat.not_lt.2 c16b4)
                    (try have c16b7 : ¬ 9223372036854775807 < 4 + a0.size + 1 := by have hh := c16; simp only [ByteArray.size_append] at hh; exact Nat.not_lt.2 hh)
                    try have c16b2 : (9223372036854775807 < ((⟨#[119, 119, 119, 46]⟩ : ByteArray) ++ a0).size + 1) = False := eq_false (Nat.not_lt.2 c16)
                    by_cases c17 : (((⟨#[119, 119, 119, 46]⟩ : ByteArray) ++ a0) ++ (⟨#[46]⟩ : ByteArray)).size + a1.size ≤ 9223372036854775807
                    · rw [if_pos c17] at H
                      have c17b0 := eq_true c17
                      have c17b1 : decide ((((⟨#[119, 119, 119, 46]⟩ : ByteArray) ++ a0) ++ (⟨#[46]⟩ : ByteArray)).size + a1.size ≤ 9223372036854775807) = true := decide_eq_true c17
                      have c17b4 := c17
                      (try simp only [ByteArray.size_append, ByteArray.size_extract, Nat.min_self] at c17b4)
                      (try have c17b5 := Nat.not_lt.2 c17b4)
                      (try have c17b7 : ¬ 9223372036854775807 < 4 + a0.size + 1 + a1.size := by have hh := c17; simp only [ByteArray.size_append] at hh; exact Nat.not_lt.2 hh)
                      try have c17b2 : (9223372036854775807 < (((⟨#[119, 119, 119, 46]⟩ : ByteArray) ++ a0) ++ (⟨#[46]⟩ : ByteArray)).size + a1.size) = False := eq_false (Nat.not_lt.2 c17)
                      by_cases c18 : 8 + a0.size ≤ 9223372036854775807
                      · rw [if_pos c18] at H
                        have c18b0 := eq_true c18
                        have c18b1 : decide (8 + a0.size ≤ 9223372036854775807) = true := decide_eq_true c18
                        try have c18b2 : (9223372036854775807 < 8 + a0.size) = False := eq_false (Nat.not_lt.2 c18)
                        by_cases c19 : ((⟨#[104, 116, 116, 112, 115, 58, 47, 47]⟩ : ByteArray) ++ a0).size + 1 ≤ 9223372036854775807
                        · rw [if_pos c19] at H
                          have c19b0 := eq_true c19
                          have c19b1 : decide (((⟨#[104, 116, 116, 112, 115, 58, 47, 47]⟩ : ByteArray) ++ a0).size + 1 ≤ 9223372036854775807) = true := decide_eq_true c19
                          have c19b4 := c19
                          (try simp only [ByteArray.size_append, ByteArray.size_extract, Nat.min_self] at c19b4)
                          (try have c19b5 := Nat.not_lt.2 c19b4)
                          (try have c19b7 : ¬ 9223372036854775807 < 8 + a0.size + 1 := by have hh := c19; simp only [ByteArray.size_append] at hh; exact Nat.not_lt.2 hh)
                          try have c19b2 : (9223372036854775807 < ((⟨#[104, 116, 116, 112, 115, 58, 47, 47]⟩ : ByteArray) ++ a0).size + 1) = False := eq_false (Nat.not_lt.2 c19)
                          by_cases c20 : (((⟨#[104, 116, 116, 112, 115, 58, 47, 47]⟩ : ByteArray) ++ a0) ++ (⟨#[46]⟩ : ByteArray)).size + a1.size ≤ 9223372036854775807
                          · rw [if_pos c20] at H
                            have c20b0 := eq_true c20
                            have c20b1 : decide ((((⟨#[104, 116, 116, 112, 115, 58, 47, 47]⟩ : ByteArray) ++ a0) ++ (⟨#[46]⟩ : ByteArray)).size + a1.size ≤ 9223372036854775807) = true := decide_eq_true c20
                            have c20b4 := c20
                            (try simp only [ByteArray.size_append, ByteArray.size_extract, Nat.min_self] at c20b4)
                            (try have c20b5 := Nat.not_lt.2 c20b4)
                            (try have c20b7 : ¬ 9223372036854775807 < 8 + a0.size + 1 + a1.size := by have hh := c20; simp only [ByteArray.size_append] at hh; exact Nat.not_lt.2 hh)
                            try have c20b2 : (9223372036854775807 < (((⟨#[104, 116, 116, 112, 115, 58, 47, 47]⟩ : ByteArray) ++ a0) ++ (⟨#[46]⟩ : ByteArray)).size + a1.size) = False := eq_false (Nat.not_lt.2 c20)
                            by_cases c21 : a0.size + 1 ≤ 9223372036854775807
                            · rw [if_pos c21] at H
                              have c21b0 := eq_true c21
                              have c21b1 : decide (a0.size + 1 ≤ 9223372036854775807) = true := decide_eq_true c21
                              try have c21b2 : (9223372036854775807 < a0.size + 1) = False := eq_false (Nat.not_lt.2 c21)
                              by_cases c22 : (a0 ++ (⟨#[64]⟩ : ByteArray)).size + a1.size ≤ 9223372036854775807
                              · rw [if_pos c22] at H
                                have c22b0 := eq_true c22
                                have c22b1 : decide ((a0 ++ (⟨#[64]⟩ : ByteArray)).size + a1.size ≤ 9223372036854775807) = true := decide_eq_true c22
                                have c22b4 := c22
                                (try simp only [ByteArray.size_append, ByteArray.size_extract, Nat.min_self] at c22b4)
                                (try have c22b5 := Nat.not_lt.2 c22b4)
                                (try have c22b7 : ¬ 9223372036854775807 < a0.size + 1 + a1.size := by have hh := c22; simp only [ByteArray.size_append] at hh; exact Nat.not_lt.2 hh)
                                try have c22b2 : (9223372036854775807 < (a0 ++ (⟨#[64]⟩ : ByteArray)).size + a1.size) = False := eq_false (Nat.not_lt.2 c22)
                                by_cases c23 : ((a0 ++ (⟨#[64]⟩ : ByteArray)) ++ a1).size + 2 ≤ 9223372036854775807
                                · rw [if_pos c23] at H
                                  have c23b0 := eq_true c23
                                  have c23b1 : decide (((a0 ++ (⟨#[64]⟩ : ByteArray)) ++ a1).size + 2 ≤ 9223372036854775807) = true := decide_eq_true c23
                                  have c23b4 := c23
                                  (try simp only [ByteArray.size_append, ByteArray.size_extract, Nat.min_self] at c23b4)
                                  (try have c23b5 := Nat.not_lt.2 c23b4)
                                  (try have c23b7 : ¬ 9223372036854775807 < a0.size + 1 + a1.size + 2 := by have hh := c23; simp only [ByteArray.size_append] at hh; exact Nat.not_lt.2 hh)
                                  try have c23b2 : (9223372036854775807 < ((a0 ++ (⟨#[64]⟩ : ByteArray)) ++ a1).size + 2) = False := eq_false (Nat.not_lt.2 c23)
                                  by_cases c24 : (a0 ++ (⟨#[32]⟩ : ByteArray)).size + ((((⟨#[119, 119, 119, 46]⟩ : ByteArray) ++ a0) ++ (⟨#[46]⟩ : ByteArray)) ++ a1).size ≤ 9223372036854775807
                                  · rw [if_pos c24] at H
                                    have c24b0 := eq_true c24
                                    have c24b1 : decide ((a0 ++ (⟨#[32]⟩ : ByteArray)).size + ((((⟨#[119, 119, 119, 46]⟩ : ByteArray) ++ a0) ++ (⟨#[46]⟩ : ByteArray)) ++ a1).size ≤ 9223372036854775807) = true := decide_eq_true c24
                                    have c24b4 := c24
                                    (try simp only [ByteArray.size_append, ByteArray.size_extract, Nat.min_self] at c24b4)
                                    (try have c24b5 := Nat.not_lt.2 c24b4)
                                    (try have c24b7 : ¬ 9223372036854775807 < a0.size + 1 + (4 + a0.size + 1 + a1.size) := by have hh := c24; simp only [ByteArray.size_append] at hh; exact Nat.not_lt.2 hh)
                                    try have c24b2 : (9223372036854775807 < (a0 ++ (⟨#[32]⟩ : ByteArray)).size + ((((⟨#[119, 119, 119, 46]⟩ : ByteArray) ++ a0) ++ (⟨#[46]⟩ : ByteArray)) ++ a1).size) = False := eq_false (Nat.not_lt.2 c24)
                                    by_cases c25 : ((a0 ++ (⟨#[32]⟩ : ByteArray)) ++ ((((⟨#[119, 119, 119, 46]⟩ : ByteArray) ++ a0) ++ (⟨#[46]⟩ : ByteArray)) ++ a1)).size + 2 ≤ 9223372036854775807
                                    · rw [if_pos c25] at H
                                      have c25b0 := eq_true c25
                                      have c25b1 : decide (((a0 ++ (⟨#[32]⟩ : ByteArray)) ++ ((((⟨#[119, 119, 119, 46]⟩ : ByteArray) ++ a0) ++ (⟨#[46]⟩ : ByteArray)) ++ a1)).size + 2 ≤ 9223372036854775807) = true := decide_eq_true c25
                                      have c25b4 := c25
                                      (try simp only [ByteArray.size_append, ByteArray.size_extract, Nat.min_self] at c25b4)
                                      (try have c25b5 := Nat.not_lt.2 c25b4)
                                      (try have c25b7 : ¬ 9223372036854775807 < a0.size + 1 + (4 + a0.size + 1 + a1.size) + 2 := by have hh := c25; simp only [ByteArray.size_append] at hh; exact Nat.not_lt.2 hh)
                                      try have c25b2 : (9223372036854775807 < ((a0 ++ (⟨#[32]⟩ : ByteArray)) ++ ((((⟨#[119, 119, 119, 46]⟩ : ByteArray) ++ a0) ++ (⟨#[46]⟩ : ByteArray)) ++ a1)).size + 2) = False := eq_false (Nat.not_lt.2 c25)
                                      by_cases c26 : (((a0 ++ (⟨#[32]⟩ : ByteArray)) ++ ((((⟨#[119, 119, 119, 46]⟩ : ByteArray) ++ a0) ++ (⟨#[46]⟩ : ByteArray)) ++ a1)) ++ (⟨#[32, 40]⟩ : ByteArray)).size + ((((⟨#[104, 116, 116, 112, 115, 58, 47, 47]⟩ : ByteArray) ++ a0) ++ (⟨#[46]⟩ : ByteArray)) ++ a1).size ≤ 9223372036854775807
                                      · rw [if_pos c26] at H
                                        have c26b0 := eq_true c26
                                        have c26b1 : decide ((((a0 ++ (⟨#[32]⟩ : ByteArray)) ++ ((((⟨#[119, 119, 119, 46]⟩ : ByteArray) ++ a0) ++ (⟨#[46]⟩ : ByteArray)) ++ a1)) ++ (⟨#[32, 40]⟩ : ByteArray)).size + ((((⟨#[104, 116, 116, 112, 115, 58, 47, 47]⟩ : ByteArray) ++ a0) ++ (⟨#[46]⟩ : ByteArray)) ++ a1).size ≤ 9223372036854775807) = true := decide_eq_true c26
                                        have c26b4 := c26
                                        (try simp only [ByteArray.size_append, ByteArray.size_extract, Nat.min_self] at c26b4)
                                        (try have c26b5 := Nat.not_lt.2 c26b4)
                                        (try have c26b7 : ¬ 9223372036854775807 < a0.size + 1 + (4 + a0.size + 1 + a1.size) + 2 + (8 + a0.size + 1 + a1.size) := by have hh := c26; simp only [ByteArray.size_append] at hh; exact Nat.not_lt.2 hh)
                                        try have c26b2 : (9223372036854775807 < (((a0 ++ (⟨#[32]⟩ : ByteArray)) ++ ((((⟨#[119, 119, 119, 46]⟩ : ByteArray) ++ a0) ++ (⟨#[46]⟩ : ByteArray)) ++ a1)) ++ (⟨#[32, 40]⟩ : ByteArray)).size + ((((⟨#[104, 116, 116, 112, 115, 58, 47, 47]⟩ : ByteArray) ++ a0) ++ (⟨#[46]⟩ : ByteArray)) ++ a1).size) = False := eq_false (Nat.not_lt.2 c26)
                                        by_cases c27 : ((((a0 ++ (⟨#[32]⟩ : ByteArray)) ++ ((((⟨#[119, 119, 119, 46]⟩ : ByteArray) ++ a0) ++ (⟨#[46]⟩ : ByteArray)) ++ a1)) ++ (⟨#[32, 40]⟩ : ByteArray)) ++ ((((⟨#[104, 116, 116, 112, 115, 58, 47, 47]⟩ : ByteArray) ++ a0) ++ (⟨#[46]⟩ : ByteArray)) ++ a1)).size + 2 ≤ 9223372036854775807
                                        · rw [if_pos c27] at H
                                          have c27b0 := eq_true c27
                                          have c27b1 : decide (((((a0 ++ (⟨#[32]⟩ : ByteArray)) ++ ((((⟨#[119, 119, 119, 46]⟩ : ByteArray) ++ a0) ++ (⟨#[46]⟩ : ByteArray)) ++ a1)) ++ (⟨#[32, 40]⟩ : ByteArray)) ++ ((((⟨#[104, 116, 116, 112, 115, 58, 47, 47]⟩ : ByteArray) ++ a0) ++ (⟨#[46]⟩ : ByteArray)) ++ a1)).size + 2 ≤ 9223372036854775807) = true := decide_eq_true c27
                                          have c27b4 := c27
                                          (try simp only [ByteArray.size_append, ByteArray.size_extract, Nat.min_self] at c27b4)
                                          (try have c27b5 := Nat.not_lt.2 c27b4)
                                          (try have c27b7 : ¬ 9223372036854775807 < a0.size + 1 + (4 + a0.size + 1 + a1.size) + 2 + (8 + a0.size + 1 + a1.size) + 2 := by have hh := c27; simp only [ByteArray.size_append] at hh; exact Nat.not_lt.2 hh)
                                          try have c27b2 : (9223372036854775807 < ((((a0 ++ (⟨#[32]⟩ : ByteArray)) ++ ((((⟨#[119, 119, 119, 46]⟩ : ByteArray) ++ a0) ++ (⟨#[46]⟩ : ByteArray)) ++ a1)) ++ (⟨#[32, 40]⟩ : ByteArray)) ++ ((((⟨#[104, 116, 116, 112, 115, 58, 47, 47]⟩ : ByteArray) ++ a0) ++ (⟨#[46]⟩ : ByteArray)) ++ a1)).size + 2) = False := eq_false (Nat.not_lt.2 c27)
                                          by_cases c28 : (((((a0 ++ (⟨#[32]⟩ : ByteArray)) ++ ((((⟨#[119, 119, 119, 46]⟩ : ByteArray) ++ a0) ++ (⟨#[46]⟩ : ByteArray)) ++ a1)) ++ (⟨#[32, 40]⟩ : ByteArray)) ++ ((((⟨#[104, 116, 116, 112, 115, 58, 47, 47]⟩ : ByteArray) ++ a0) ++ (⟨#[46]⟩ : ByteArray)) ++ a1)) ++ (⟨#[41, 32]⟩ : ByteArray)).size + (((a0 ++ (⟨#[64]⟩ : ByteArray)) ++ a1) ++ (⟨#[46, 99]⟩ : ByteArray)).size ≤ 9223372036854775807
                                          · rw [if_pos c28] at H
                                            have c28b0 := eq_true c28
                                            have c28b1 : decide ((((((a0 ++ (⟨#[32]⟩ : ByteArray)) ++ ((((⟨#[119, 119, 119, 46]⟩ : ByteArray) ++ a0) ++ (⟨#[46]⟩ : ByteArray)) ++ a1)) ++ (⟨#[32, 40]⟩ : ByteArray)) ++ ((((⟨#[104, 116, 116, 112, 115, 58, 47, 47]⟩ : ByteArray) ++ a0) ++ (⟨#[46]⟩ : ByteArray)) ++ a1)) ++ (⟨#[41, 32]⟩ : ByteArray)).size + (((a0 ++ (⟨#[64]⟩ : ByteArray)) ++ a1) ++ (⟨#[46, 99]⟩ : ByteArray)).size ≤ 9223372036854775807) = true := decide_eq_true c28
                                            have c28b4 := c28
                                            (try simp only [ByteArray.size_append, ByteArray.size_extract, Nat.min_self] at c28b4)
                                            (try have c28b5 := Nat.not_lt.2 c28b4)
                                            (try have c28b7 : ¬ 9223372036854775807 < a0.size + 1 + (4 + a0.size + 1 + a1.size) + 2 + (8 + a0.size + 1 + a1.size) + 2 + (a0.size + 1 + a1.size + 2) := by have hh := c28; simp only [ByteArray.size_append] at hh; exact Nat.not_lt.2 hh)
                                            try have c28b2 : (9223372036854775807 < (((((a0 ++ (⟨#[32]⟩ : ByteArray)) ++ ((((⟨#[119, 119, 119, 46]⟩ : ByteArray) ++ a0) ++ (⟨#[46]⟩ : ByteArray)) ++ a1)) ++ (⟨#[32, 40]⟩ : ByteArray)) ++ ((((⟨#[104, 116, 116, 112, 115, 58, 47, 47]⟩ : ByteArray) ++ a0) ++ (⟨#[46]⟩ : ByteArray)) ++ a1)) ++ (⟨#[41, 32]⟩ : ByteArray)).size + (((a0 ++ (⟨#[64]⟩ : ByteArray)) ++ a1) ++ (⟨#[46, 99]⟩ : ByteArray)).size) = False := eq_false (Nat.not_lt.2 c28)
                                            by_cases c29 : ((((((a0 ++ (⟨#[32]⟩ : ByteArray)) ++ ((((⟨#[119, 119, 119, 46]⟩ : ByteArray) ++ a0) ++ (⟨#[46]⟩ : ByteArray)) ++ a1)) ++ (⟨#[32, 40]⟩ : ByteArray)) ++ ((((⟨#[104, 116, 116, 112, 115, 58, 47, 47]⟩ : ByteArray) ++ a0) ++ (⟨#[46]⟩ : ByteArray)) ++ a1)) ++ (⟨#[41, 32]⟩ : ByteArray)) ++ (((a0 ++ (⟨#[64]⟩ : ByteArray)) ++ a1) ++ (⟨#[46, 99]⟩ : ByteArray))).size + 2 ≤ 9223372036854775807
                                            · rw [if_pos c29] at H
                                              have c29b0 := eq_true c29
                                              have c29b1 : decide (((((((a0 ++ (⟨#[32]⟩ : ByteArray)) ++ ((((⟨#[119, 119, 119, 46]⟩ : ByteArray) ++ a0) ++ (⟨#[46]⟩ : ByteArray)) ++ a1)) ++ (⟨#[32, 40]⟩ : ByteArray)) ++ ((((⟨#[104, 116, 116, 112, 115, 58, 47, 47]⟩ : ByteArray) ++ a0) ++ (⟨#[46]⟩ : ByteArray)) ++ a1)) ++ (⟨#[41, 32]⟩ : ByteArray)) ++ (((a0 ++ (⟨#[64]⟩ : ByteArray)) ++ a1) ++ (⟨#[46, 99]⟩ : ByteArray))).size + 2 ≤ 9223372036854775807) = true := decide_eq_true c29
                                              have c29b4 := c29
                                              (try simp only [ByteArray.size_append, ByteArray.size_extract, Nat.min_self] at c29b4)
                                              (try have c29b5 := Nat.not_lt.2 c29b4)
                                              (try have c29b7 : ¬ 9223372036854775807 < a0.size + 1 + (4 + a0.size + 1 + a1.size) + 2 + (8 + a0.size + 1 + a1.size) + 2 + (a0.size + 1 + a1.size + 2) + 2 := by have hh := c29; simp only [ByteArray.size_append] at hh; exact Nat.not_lt.2 hh)
                                              try have c29b2 : (9223372036854775807 < ((((((a0 ++ (⟨#[32]⟩ : ByteArray)) ++ ((((⟨#[119, 119, 119, 46]⟩ : ByteArray) ++ a0) ++ (⟨#[46]⟩ : ByteArray)) ++ a1)) ++ (⟨#[32, 40]⟩ : ByteArray)) ++ ((((⟨#[104, 116, 116, 112, 115, 58, 47, 47]⟩ : ByteArray) ++ a0) ++ (⟨#[46]⟩ : ByteArray)) ++ a1)) ++ (⟨#[41, 32]⟩ : ByteArray)) ++ (((a0 ++ (⟨#[64]⟩ : ByteArray)) ++ a1) ++ (⟨#[46, 99]⟩ : ByteArray))).size + 2) = False := eq_false (Nat.not_lt.2 c29)
                                              by_cases c30 : (((((((a0 ++ (⟨#[32]⟩ : ByteArray)) ++ ((((⟨#[119, 119, 119, 46]⟩ : ByteArray) ++ a0) ++ (⟨#[46]⟩ : ByteArray)) ++ a1)) ++ (⟨#[32, 40]⟩ : ByteArray)) ++ ((((⟨#[104, 116, 116, 112, 115, 58, 47, 47]⟩ : ByteArray) ++ a0) ++ (⟨#[46]⟩ : ByteArray)) ++ a1)) ++ (⟨#[41, 32]⟩ : ByteArray)) ++ (((a0 ++ (⟨#[64]⟩ : ByteArray)) ++ a1) ++ (⟨#[46, 99]⟩ : ByteArray))) ++ (⟨#[44, 32]⟩ : ByteArray)).size + a1.size ≤ 9223372036854775807
                                              · rw [if_pos c30] at H
                                                have c30b0 := eq_true c30
                                                have c30b1 : decide ((((((((a0 ++ (⟨#[32]⟩ : ByteArray)) ++ ((((⟨#[119, 119, 119, 46]⟩ : ByteArray) ++ a0) ++ (⟨#[46]⟩ : ByteArray)) ++ a1)) ++ (⟨#[32, 40]⟩ : ByteArray)) ++ ((((⟨#[104, 116, 116, 112, 115, 58, 47, 47]⟩ : ByteArray) ++ a0) ++ (⟨#[46]⟩ : ByteArray)) ++ a1)) ++ (⟨#[41, 32]⟩ : ByteArray)) ++ (((a0 ++ (⟨#[64]⟩ : ByteArray)) ++ a1) ++ (⟨#[46, 99]⟩ : ByteArray))) ++ (⟨#[44, 32]⟩ : ByteArray)).size + a1.size ≤ 9223372036854775807) = true := decide_eq_true c30
                                                have c30b4 := c30
                                                (try simp only [ByteArray.size_append, ByteArray.size_extract, Nat.min_self] at c30b4)
                                                (try have c30b5 := Nat.not_lt.2 c30b4)
                                                (try have c30b7 : ¬ 9223372036854775807 < a0.size + 1 + (4 + a0.size + 1 + a1.size) + 2 + (8 + a0.size + 1 + a1.size) + 2 + (a0.size + 1 + a1.size + 2) + 2 + a1.size := by have hh := c30; simp only [ByteArray.size_append] at hh; exact Nat.not_lt.2 hh)
                                                try have c30b2 : (9223372036854775807 < (((((((a0 ++ (⟨#[32]⟩ : ByteArray)) ++ ((((⟨#[119, 119, 119, 46]⟩ : ByteArray) ++ a0) ++ (⟨#[46]⟩ : ByteArray)) ++ a1)) ++ (⟨#[32, 40]⟩ : ByteArray)) ++ ((((⟨#[104, 116, 116, 112, 115, 58, 47, 47]⟩ : ByteArray) ++ a0) ++ (⟨#[46]⟩ : ByteArray)) ++ a1)) ++ (⟨#[41, 32]⟩ : ByteArray)) ++ (((a0 ++ (⟨#[64]⟩ : ByteArray)) ++ a1) ++ (⟨#[46, 99]⟩ : ByteArray))) ++ (⟨#[44, 32]⟩ : ByteArray)).size + a1.size) = False := eq_false (Nat.not_lt.2 c30)
                                                replace H := Option.bind_eq_some_iff.mp H
                                                obtain ⟨t161, A310, H⟩ := H
                                                replace H : (if t160 = true then (if (a0 ++ (⟨#[32]⟩ : ByteArray)).size + a1.size ≤ 9223372036854775807 then ((auto_Find.f k2 ((a0 ++ (⟨#[32]⟩ : ByteArray)) ++ a1)).bind fun t164 => (if (t164.length : Int) = 0 then (if (t161.length : Int) = 3 then (if 0 < (t161.length : Int) then (if 7 + ((((⟨#[119, 119, 119, 46]⟩ : ByteArray) ++ a0) ++ (⟨#[46]⟩ : ByteArray)) ++ a1).size ≤ 9223372036854775807 then (if ((rd_T26 t161 0).f2).toList = ((⟨#[104, 116, 116, 112, 58, 47, 47]⟩ : ByteArray) ++ ((((⟨#[119, 119, 119, 46]⟩ : ByteArray) ++ a0) ++ (⟨#[46]⟩ : ByteArray)) ++ a1)).toList then (if 1 < (t161.length : Int) then (if ((rd_T26 t161 1).f2).toList = ((((⟨#[104, 116, 116, 112, 115, 58, 47, 47]⟩ : ByteArray) ++ a0) ++ (⟨#[46]⟩ : ByteArray)) ++ a1).toList then (if 2 < (t161.length : Int) then (if 7 + (((a0 ++ (⟨#[64]⟩ : ByteArray)) ++ a1) ++ (⟨#[46, 99]⟩ : ByteArray)).size ≤ 9223372036854775807 then (some (((rd_T26 t161 2).f2).toList == ((⟨#[109, 97, 105, 108, 116, 111, 58]⟩ : ByteArray) ++ (((a0 ++ (⟨#[64]⟩ : ByteArray)) ++ a1) ++ (⟨#[46, 99]⟩ : ByteArray))).toList)) else (none)) else (none)) else (some false)) else (none)) else (some false)) else (none)) else (none)) else (some false)) else (some false))) else (none)) else (some false)) = some r := H
                                                have A31 := Aside0.mk A310
                                                clear A310
                                                by_cases c32 : t160 = true
                                                · subst c32
                                                  have H1 : (if (a0 ++ (⟨#[32]⟩ : ByteArray)).size + a1.size ≤ 9223372036854775807 then ((auto_Find.f k2 ((a0 ++ (⟨#[32]⟩ : ByteArray)) ++ a1)).bind fun t164 => (if (t164.length : Int) = 0 then (if (t161.length : Int) = 3 then (if 0 < (t161.length : Int) then (if 7 + ((((⟨#[119, 119, 119, 46]⟩ : ByteArray) ++ a0) ++ (⟨#[46]⟩ : ByteArray)) ++ a1).size ≤ 9223372036854775807 then (if ((rd_T26 t161 0).f2).toList = ((⟨#[104, 116, 116, 112, 58, 47, 47]⟩ : ByteArray) ++ ((((⟨#[119, 119, 119, 46]⟩ : ByteArray) ++ a0) ++ (⟨#[46]⟩ : ByteArray)) ++ a1)).toList then (if 1 < (t161.length : Int) then (if ((rd_T26 t161 1).f2).toList = ((((⟨#[104, 116, 116, 112, 115, 58, 47, 47]⟩ : ByteArray) ++ a0) ++ (⟨#[46]⟩ : ByteArray)) ++ a1).toList then (if 2 < (t161.length : Int) then (if 7 + (((a0 ++ (⟨#[64]⟩ : ByteArray)) ++ a1) ++ (⟨#[46, 99]⟩ : ByteArray)).size ≤ 9223372036854775807 then (some (((rd_T26 t161 2).f2).toList == ((⟨#[109, 97, 105, 108, 116, 111, 58]⟩ : ByteArray) ++ (((a0 ++ (⟨#[64]⟩ : ByteArray)) ++ a1) ++ (⟨#[46, 99]⟩ : ByteArray))).toList)) else (none)) else (none)) else (some false)) else (none)) else (some false)) else (none)) else (none)) else (some false)) else (some false))) else (none)) = some r := by rw [if_pos rfl] at H; exact H
                                                  clear H
                                                  have H := H1
                                                  clear H1
                                                  by_cases c33 : (a0 ++ (⟨#[32]⟩ : ByteArray)).size + a1.size ≤ 9223372036854775807
                                                  · rw [if_pos c33] at H
                                                    have c33b0 := eq_true c33
                                                    have c33b1 : decide ((a0 ++ (⟨#[32]⟩ : ByteArray)).size + a1.size ≤ 9223372036854775807) = true := decide_eq_true c33
                                                    have c33b4 := c33
                                                    (try simp only [ByteArray.size_append, ByteArray.size_extract, Nat.min_self] at c33b4)
                                                    (try have c33b5 := Nat.not_lt.2 c33b4)
                                                    (try have c33b7 : ¬ 9223372036854775807 < a0.size + 1 + a1.size := by have hh := c33; simp only [ByteArray.size_append] at hh; exact Nat.not_lt.2 hh)
                                                    try have c33b2 : (9223372036854775807 < (a0 ++ (⟨#[32]⟩ : ByteArray)).size + a1.size) = False := eq_false (Nat.not_lt.2 c33)
                                                    replace H := Option.bind_eq_some_iff.mp H
                                                    obtain ⟨t164, A340, H⟩ := H
                                                    replace H : (if (t164.length : Int) = 0 then (if (t161.length : Int) = 3 then (if 0 < (t161.length : Int) then (if 7 + ((((⟨#[119, 119, 119, 46]⟩ : ByteArray) ++ a0) ++ (⟨#[46]⟩ : ByteArray)) ++ a1).size ≤ 9223372036854775807 then (if ((rd_T26 t161 0).f2).toList = ((⟨#[104, 116, 116, 112, 58, 47, 47]⟩ : ByteArray) ++ ((((⟨#[119, 119, 119, 46]⟩ : ByteArray) ++ a0) ++ (⟨#[46]⟩ : ByteArray)) ++ a1)).toList then (if 1 < (t161.length : Int) then (if ((rd_T26 t161 1).f2).toList = ((((⟨#[104, 116, 116, 112, 115, 58, 47, 47]⟩ : ByteArray) ++ a0) ++ (⟨#[46]⟩ : ByteArray)) ++ a1).toList then (if 2 < (t161.length : Int) then (if 7 + (((a0 ++ (⟨#[64]⟩ : ByteArray)) ++ a1) ++ (⟨#[46, 99]⟩ : ByteArray)).size ≤ 9223372036854775807 then (some (((rd_T26 t161 2).f2).toList == ((⟨#[109, 97, 105, 108, 116, 111, 58]⟩ : ByteArray) ++ (((a0 ++ (⟨#[64]⟩ : ByteArray)) ++ a1) ++ (⟨#[46, 99]⟩ : ByteArray))).toList)) else (none)) else (none)) else (some false)) else (none)) else (some false)) else (none)) else (none)) else (some false)) else (some false)) = some r := H
                                                    have A34 := Aside0.mk A340
                                                    clear A340
                                                    by_cases c35 : (t164.length : Int) = 0
                                                    · rw [if_pos c35] at H
                                                      have c35b0 : ((t164.length : Int) == 0) = true := beq_iff_eq.mpr c35
                                                      have c35b1 : ((t164.length : Int) != 0) = false := bne_eq_false_iff_eq.mpr c35
                                                      clear c35
                                                      by_cases c36 : (t161.length : Int) = 3
                                                      · rw [if_pos c36] at H
                                                        have c36b0 : ((t161.length : Int) == 3) = true := beq_iff_eq.mpr c36
                                                        have c36b1 : ((t161.length : Int) != 3) = false := bne_eq_false_iff_eq.mpr c36
                                                        clear c36
                                                        by_cases c37 : 0 < (t161.length : Int)
                                                        · rw [if_pos c37] at H
                                                          have c37b0 : decide (0 < (t161.length : Int)) = true := decide_eq_true c37
                                                          have c37b1 : decide (0 < t161.length) = true := decide_eq_true (by omega)
                                                          clear c37
                                                          by_cases c38 : 7 + ((((⟨#[119, 119, 119, 46]⟩ : ByteArray) ++ a0) ++ (⟨#[46]⟩ : ByteArray)) ++ a1).size ≤ 9223372036854775807
                                                          · rw [if_pos c38] at H
                                                            have c38b0 := eq_true c38
                                                            have c38b1 : decide (7 + ((((⟨#[119, 119, 119, 46]⟩ : ByteArray) ++ a0) ++ (⟨#[46]⟩ : ByteArray)) ++ a1).size ≤ 9223372036854775807) = true := decide_eq_true c38
                                                            have c38b4 := c38
                                                            (try simp only [ByteArray.size_append, ByteArray.size_extract, Nat.min_self] at c38b4)
                                                            (try have c38b5 := Nat.not_lt.2 c38b4)
                                                            (try have c38b7 : ¬ 9223372036854775807 < 7 + (4 + a0.size + 1 + a1.size) := by have hh := c38; simp only [ByteArray.size_append] at hh; exact Nat.not_lt.2 hh)
                                                            try have c38b2 : (9223372036854775807 < 7 + ((((⟨#[119, 119, 119, 46]⟩ : ByteArray) ++ a0) ++ (⟨#[46]⟩ : ByteArray)) ++ a1).size) = False := eq_false (Nat.not_lt.2 c38)
                                                            by_cases c39 : ((rd_T26 t161 0).f2).toList = ((⟨#[104, 116, 116, 112, 58, 47, 47]⟩ : ByteArray) ++ ((((⟨#[119, 119, 119, 46]⟩ : ByteArray) ++ a0) ++ (⟨#[46]⟩ : ByteArray)) ++ a1)).toList
                                                            · rw [if_pos c39] at H
                                                              have c39b0 : (((rd_T26 t161 0).f2).toList == ((⟨#[104, 116, 116, 112, 58, 47, 47]⟩ : ByteArray) ++ ((((⟨#[119, 119, 119, 46]⟩ : ByteArray) ++ a0) ++ (⟨#[46]⟩ : ByteArray)) ++ a1)).toList) = true := beq_iff_eq.mpr c39
                                                              have c39b1 : (((rd_T26 t161 0).f2).toList != ((⟨#[104, 116, 116, 112, 58, 47, 47]⟩ : ByteArray) ++ ((((⟨#[119, 119, 119, 46]⟩ : ByteArray) ++ a0) ++ (⟨#[46]⟩ : ByteArray)) ++ a1)).toList) = false := bne_eq_false_iff_eq.mpr c39
                                                              clear c39
                                                              by_cases c40 : 1 < (t161.length : Int)
                                                              · rw [if_pos c40] at H
                                                                have c40b0 : decide (1 < (t161.length : Int)) = true := decide_eq_true c40
                                                                have c40b1 : decide (1 < t161.length) = true := decide_eq_true (by omega)
                                                                clear c40
                                                                by_cases c41 : ((rd_T26 t161 1).f2).toList = ((((⟨#[104, 116, 116, 112, 115, 58, 47, 47]⟩ : ByteArray) ++ a0) ++ (⟨#[46]⟩ : ByteArray)) ++ a1).toList
                                                                · rw [if_pos c41] at H
                                                                  have c41b0 : (((rd_T26 t161 1).f2).toList == ((((⟨#[104, 116, 116, 112, 115, 58, 47, 47]⟩ : ByteArray) ++ a0) ++ (⟨#[46]⟩ : ByteArray)) ++ a1).toList) = true := beq_iff_eq.mpr c41
                                                                  have c41b1 : (((rd_T26 t161 1).f2).toList != ((((⟨#[104, 116, 116, 112, 115, 58, 47, 47]⟩ : ByteArray) ++ a0) ++ (⟨#[46]⟩ : ByteArray)) ++ a1).toList) = false := bne_eq_false_iff_eq.mpr c41
                                                                  clear c41
                                                                  by_cases c42 : 2 < (t161.length : Int)
                                                                  · rw [if_pos c42] at H
                                                                    have c42b0 : decide (2 < (t161.length : Int)) = true := decide_eq_true c42
                                                                    have c42b1 : decide (2 < t161.length) = true := decide_eq_true (by omega)
                                                                    clear c42
                                                                    by_cases c43 : 7 + (((a0 ++ (⟨#[64]⟩ : ByteArray)) ++ a1) ++ (⟨#[46, 99]⟩ : ByteArray)).size ≤ 9223372036854775807
                                                                    · rw [if_pos c43] at H
                                                                      have c43b0 := eq_true c43
                                                                      have c43b1 : decide (7 + (((a0 ++ (⟨#[64]⟩ : ByteArray)) ++ a1) ++ (⟨#[46, 99]⟩ : ByteArray)).size ≤ 9223372036854775807) = true := decide_eq_true c43
                                                                      have c43b4 := c43
                                                                      (try simp only [ByteArray.size_append, ByteArray.size_extract, Nat.min_self] at c43b4)
                                                                      (try have c43b5 := Nat.not_lt.2 c43b4)
                                                                      (try have c43b7 : ¬ 9223372036854775807 < 7 + (a0.size + 1 + a1.size + 2) := by have hh := c43; simp only [ByteArray.size_append] at hh; exact Nat.not_lt.2 hh)
                                                                      try have c43b2 : (9223372036854775807 < 7 + (((a0 ++ (⟨#[64]⟩ : ByteArray)) ++ a1) ++ (⟨#[46, 99]⟩ : ByteArray)).size) = False := eq_false (Nat.not_lt.2 c43)
                                                                      obtain rfl := Option.some.inj H
                                                                      go_wp2_with (first | ((with_reducible refine gate_callee (f := 9) rfl ?_); refine goesL_ (some 76) rfl rfl Tryd.func9 (by kernel_rfl) rfl #[.string ((((((((a0 ++ (⟨#[32]⟩ : ByteArray)) ++ ((((⟨#[119, 119, 119, 46]⟩ : ByteArray) ++ a0) ++ (⟨#[46]⟩ : ByteArray)) ++ a1)) ++ (⟨#[32, 40]⟩ : ByteArray)) ++ ((((⟨#[104, 116, 116, 112, 115, 58, 47, 47]⟩ : ByteArray) ++ a0) ++ (⟨#[46]⟩ : ByteArray)) ++ a1)) ++ (⟨#[41, 32]⟩ : ByteArray)) ++ (((a0 ++ (⟨#[64]⟩ : ByteArray)) ++ a1) ++ (⟨#[46, 99]⟩ : ByteArray))) ++ (⟨#[44, 32]⟩ : ByteArray)) ++ a1)] rfl (by (try simp only [List.map_toArray, List.map_cons, List.map_nil]); first | done | rfl | (simp only [List.length_drop, List.length_take]; rfl)) ?_; (with_reducible refine (auto_Find.calls k2 ((((((((a0 ++ (⟨#[32]⟩ : ByteArray)) ++ ((((⟨#[119, 119, 119, 46]⟩ : ByteArray) ++ a0) ++ (⟨#[46]⟩ : ByteArray)) ++ a1)) ++ (⟨#[32, 40]⟩ : ByteArray)) ++ ((((⟨#[104, 116, 116, 112, 115, 58, 47, 47]⟩ : ByteArray) ++ a0) ++ (⟨#[46]⟩ : ByteArray)) ++ a1)) ++ (⟨#[41, 32]⟩ : ByteArray)) ++ (((a0 ++ (⟨#[64]⟩ : ByteArray)) ++ a1) ++ (⟨#[46, 99]⟩ : ByteArray))) ++ (⟨#[44, 32]⟩ : ByteArray)) ++ a1) t161 _ ?side1 A31.out).mono ?_); (case side1 => exact Laid.go hLd (by repeat (first | (with_reducible first | exact HB.out | apply below_alloc | apply pw_below_drewN | apply below_drew1) | exact HB.out))); rintro e w44 ⟨v162, rfl, ho0, hb⟩; refine ⟨_, rfl, ?_⟩; have n0_ := Aside0.mk (Kd.R_lower ho0 (below_size (by repeat (first | (with_reducible first | exact HB.out | apply below_alloc | apply pw_below_drewN | apply below_drew1) | exact HB.out)))); have n1_ := Aside0.mk (below_step (by repeat (first | (with_reducible first | exact HB.out | apply below_alloc | apply pw_below_drewN | apply below_drew1) | exact HB.out)) hb); clear HB; have HO163 := n0_; have HB := n1_; clear n0_ n1_; (try clear hb); (try clear hb2); (try clear hk); (try clear hi); (try clear ho0)) | (go_at_call 9; (with_reducible refine (auto_Find.calls k2 ((a0 ++ (⟨#[32]⟩ : ByteArray)) ++ a1) t164 _ ?side1 A34.out).mono ?_); (case side1 => exact Laid.go hLd (by repeat (first | (with_reducible first | exact HB.out | apply below_alloc | apply pw_below_drewN | apply below_drew1) | exact HB.out))); rintro e w45 ⟨v165, rfl, ho0, hb⟩; have n0_ := Aside0.mk (Kd.R_elder' (by (with_reducible repeat (first | apply Kd.R_alloc | apply Kd.R_drewN | apply Kd.R_drew)); exact HO163.out) (Kd.R_base ho0) hb); have n1_ := Aside0.mk (Kd.R_lower (Kd.R_new' ho0 (Kd.R_lt (by (with_reducible repeat (first | apply Kd.R_alloc | apply Kd.R_drewN | apply Kd.R_drew)); exact HO163.out))) (below_size (by repeat (first | (with_reducible first | exact HB.out | apply below_alloc | apply pw_below_drewN | apply below_drew1) | exact HB.out)))); have n2_ := Aside0.mk (below_step (by repeat (first | (with_reducible first | exact HB.out | apply below_alloc | apply pw_below_drewN | apply below_drew1) | exact HB.out)) hb); clear HO163; clear HB; have HO163 := n0_; have HO166 := n1_; have HB := n2_; clear n0_ n1_ n2_; (try clear hb); (try clear hb2); (try clear hk); (try clear hi); (try clear ho0); obtain ⟨Ao46, co46, eo46⟩ := Kd.R_slice HO166.out; subst eo46; obtain ⟨Ao47, co47, eo47⟩ := Kd.R_slice HO163.out; subst eo47; have p167 : 0 ≤ (0 : Int) := (by omega); have q167 : 0 < (t161.length : Int) := of_decide_eq_true (by first | (with_reducible assumption) | assumption); obtain ⟨ad167, e167, hx167_0, hx167_1, hx167_2⟩ := at_T26 (Kd.R_reads' HO163.out).2.2 0 p167 q167; cases e167; have qi167 : (0 < t161.length) = True := eq_true (by omega); (try rw [show ((0 : Int)).toNat = 0 from rfl] at hx167_0); (try rw [show 0 * 3 = 0 from rfl] at hx167_0); (try rw [Addr.add_zero'] at hx167_0); (try rw [show ((0 : Int)).toNat = 0 from rfl] at hx167_1); (try rw [show 0 * 3 = 0 from rfl] at hx167_1); (try rw [Addr.add_zero'] at hx167_1); (try rw [show ((0 : Int)).toNat = 0 from rfl] at hx167_2); (try rw [show 0 * 3 = 0 from rfl] at hx167_2); (try rw [Addr.add_zero'] at hx167_2); replace p167 := eq_true p167; replace q167 := eq_true q167; have p168 : 0 ≤ (1 : Int) := (by omega); have q168 : 1 < (t161.length : Int) := of_decide_eq_true (by first | (with_reducible assumption) | assumption); obtain ⟨ad168, e168, hx168_0, hx168_1, hx168_2⟩ := at_T26 (Kd.R_reads' HO163.out).2.2 1 p168 q168; obtain rfl : ad167 = ad168 := (by injection e168); (try simp only [show (1 : Int).toNat = 1 from rfl, Nat.reduceMul, Nat.reduceEqDiff, Go.Addr.add, ↓reduceIte] at hx168_0); (try simp only [show (1 : Int).toNat = 1 from rfl, Nat.reduceMul, Nat.reduceEqDiff, Go.Addr.add, ↓reduceIte] at hx168_1); (try simp only [show (1 : Int).toNat = 1 from rfl, Nat.reduceMul, Nat.reduceEqDiff, Go.Addr.add, ↓reduceIte] at hx168_2); have qi168 : (1 < t161.length) = True := eq_true (by omega); (try rw [show ((1 : Int)).toNat = 1 from rfl] at hx168_0); (try rw [show 1 * 3 = 3 from rfl] at hx168_0); (try rw [show ((1 : Int)).toNat = 1 from rfl] at hx168_1); (try rw [show 1 * 3 = 3 from rfl] at hx168_1); (try rw [show ((1 : Int)).toNat = 1 from rfl] at hx168_2); (try rw [show 1 * 3 = 3 from rfl] at hx168_2); replace p168 := eq_true p168; replace q168 := eq_true q168; have p169 : 0 ≤ (2 : Int) := (by omega); have q169 : 2 < (t161.length : Int) := of_decide_eq_true (by first | (with_reducible assumption) | assumption); obtain ⟨ad169, e169, hx169_0, hx169_1, hx169_2⟩ := at_T26 (Kd.R_reads' HO163.out).2.2 2 p169 q169; obtain rfl : ad167 = ad169 := (by injection e169); (try simp only [show (2 : Int).toNat = 2 from rfl, Nat.reduceMul, Nat.reduceEqDiff, Go.Addr.add, ↓reduceIte] at hx169_0); (try simp only [show (2 : Int).toNat = 2 from rfl, Nat.reduceMul, Nat.reduceEqDiff, Go.Addr.add, ↓reduceIte] at hx169_1); (try simp only [show (2 : Int).toNat = 2 from rfl, Nat.reduceMul, Nat.reduceEqDiff, Go.Addr.add, ↓reduceIte] at hx169_2); have qi169 : (2 < t161.length) = True := eq_true (by omega); (try rw [show ((2 : Int)).toNat = 2 from rfl] at hx169_0); (try rw [show 2 * 3 = 6 from rfl] at hx169_0); (try rw [show ((2 : Int)).toNat = 2 from rfl] at hx169_1); (try rw [show 2 * 3 = 6 from rfl] at hx169_1); (try rw [show ((2 : Int)).toNat = 2 from rfl] at hx169_2); (try rw [show 2 * 3 = 6 from rfl] at hx169_2); replace p169 := eq_true p169; replace q169 := eq_true q169))
                                                                      go_ret
                                                                      exact ⟨by first | rfl | (simp [errW_none, errW_some] <;> rfl) | (simp [*, errW_none, errW_some] <;> rfl), by repeat (first | (with_reducible first | exact HB.out | apply below_alloc | apply pw_below_drewN | apply below_drew1) | exact HB.out)⟩
                                                                    · rw [if_neg c43] at H
                                                                      exact absurd H (by simp)
                                                                  · rw [if_neg c42] at H
                                                                    exact absurd H (by simp)
                                                                · rw [if_neg c41] at H
                                                                  have c41b0 : (((rd_T26 t161 1).f2).toList == ((((⟨#[104, 116, 116, 112, 115, 58, 47, 47]⟩ : ByteArray) ++ a0) ++ (⟨#[46]⟩ : ByteArray)) ++ a1).toList) = false := beq_eq_false_iff_ne.mpr c41
                                                                  have c41b1 : (((rd_T26 t161 1).f2).toList != ((((⟨#[104, 116, 116, 112, 115, 58, 47, 47]⟩ : ByteArray) ++ a0) ++ (⟨#[46]⟩ : ByteArray)) ++ a1).toList) = true := bne_iff_ne.mpr c41
                                                                  obtain rfl := Option.some.inj H
                                                                  go_wp2_with (first | ((with_reducible refine gate_callee (f := 9) rfl ?_); refine goesL_ (some 76) rfl rfl Tryd.func9 (by kernel_rfl) rfl #[.string ((((((((a0 ++ (⟨#[32]⟩ : ByteArray)) ++ ((((⟨#[119, 119, 119, 46]⟩ : ByteArray) ++ a0) ++ (⟨#[46]⟩ : ByteArray)) ++ a1)) ++ (⟨#[32, 40]⟩ : ByteArray)) ++ ((((⟨#[104, 116, 116, 112, 115, 58, 47, 47]⟩ : ByteArray) ++ a0) ++ (⟨#[46]⟩ : ByteArray)) ++ a1)) ++ (⟨#[41, 32]⟩ : ByteArray)) ++ (((a0 ++ (⟨#[64]⟩ : ByteArray)) ++ a1) ++ (⟨#[46, 99]⟩ : ByteArray))) ++ (⟨#[44, 32]⟩ : ByteArray)) ++ a1)] rfl (by (try simp only [List.map_toArray, List.map_cons, List.map_nil]); first | done | rfl | (simp only [List.length_drop, List.length_take]; rfl)) ?_; (with_reducible refine (auto_Find.calls k2 ((((((((a0 ++ (⟨#[32]⟩ : ByteArray)) ++ ((((⟨#[119, 119, 119, 46]⟩ : ByteArray) ++ a0) ++ (⟨#[46]⟩ : ByteArray)) ++ a1)) ++ (⟨#[32, 40]⟩ : ByteArray)) ++ ((((⟨#[104, 116, 116, 112, 115, 58, 47, 47]⟩ : ByteArray) ++ a0) ++ (⟨#[46]⟩ : ByteArray)) ++ a1)) ++ (⟨#[41, 32]⟩ : ByteArray)) ++ (((a0 ++ (⟨#[64]⟩ : ByteArray)) ++ a1) ++ (⟨#[46, 99]⟩ : ByteArray))) ++ (⟨#[44, 32]⟩ : ByteArray)) ++ a1) t161 _ ?side1 A31.out).mono ?_); (case side1 => exact Laid.go hLd (by repeat (first | (with_reducible first | exact HB.out | apply below_alloc | apply pw_below_drewN | apply below_drew1) | exact HB.out))); rintro e w48 ⟨v162, rfl, ho0, hb⟩; refine ⟨_, rfl, ?_⟩; have n0_ := Aside0.mk (Kd.R_lower ho0 (below_size (by repeat (first | (with_reducible first | exact HB.out | apply below_alloc | apply pw_below_drewN | apply below_drew1) | exact HB.out)))); have n1_ := Aside0.mk (below_step (by repeat (first | (with_reducible first | exact HB.out | apply below_alloc | apply pw_below_drewN | apply below_drew1) | exact HB.out)) hb); clear HB; have HO163 := n0_; have HB := n1_; clear n0_ n1_; (try clear hb); (try clear hb2); (try clear hk); (try clear hi); (try clear ho0)) | (go_at_call 9; (with_reducible refine (auto_Find.calls k2 ((a0 ++ (⟨#[32]⟩ : ByteArray)) ++ a1) t164 _ ?side1 A34.out).mono ?_); (case side1 => exact Laid.go hLd (by repeat (first | (with_reducible first | exact HB.out | apply below_alloc | apply pw_below_drewN | apply below_drew1) | exact HB.out))); rintro e w49 ⟨v165, rfl, ho0, hb⟩; have n0_ := Aside0.mk (Kd.R_elder' (by (with_reducible repeat (first | apply Kd.R_alloc | apply Kd.R_drewN | apply Kd.R_drew)); exact HO163.out) (Kd.R_base ho0) hb); have n1_ := Aside0.mk (Kd.R_lower (Kd.R_new' ho0 (Kd.R_lt (by (with_reducible repeat (first | apply Kd.R_alloc | apply Kd.R_drewN | apply Kd.R_drew)); exact HO163.out))) (below_size (by repeat (first | (with_reducible first | exact HB.out | apply below_alloc | apply pw_below_drewN | apply below_drew1) | exact HB.out)))); have n2_ := Aside0.mk (below_step (by repeat (first | (with_reducible first | exact HB.out | apply below_alloc | apply pw_below_drewN | apply below_drew1) | exact HB.out)) hb); clear HO163; clear HB; have HO163 := n0_; have HO166 := n1_; have HB := n2_; clear n0_ n1_ n2_; (try clear hb); (try clear hb2); (try clear hk); (try clear hi); (try clear ho0); obtain ⟨Ao50, co50, eo50⟩ := Kd.R_slice HO166.out; subst eo50; obtain ⟨Ao51, co51, eo51⟩ := Kd.R_slice HO163.out; subst eo51; have p167 : 0 ≤ (0 : Int) := (by omega); have q167 : 0 < (t161.length : Int) := of_decide_eq_true (by first | (with_reducible assumption) | assumption); obtain ⟨ad167, e167, hx167_0, hx167_1, hx167_2⟩ := at_T26 (Kd.R_reads' HO163.out).2.2 0 p167 q167; cases e167; have qi167 : (0 < t161.length) = True := eq_true (by omega); (try rw [show ((0 : Int)).toNat = 0 from rfl] at hx167_0); (try rw [show 0 * 3 = 0 from rfl] at hx167_0); (try rw [Addr.add_zero'] at hx167_0); (try rw [show ((0 : Int)).toNat = 0 from rfl] at hx167_1); (try rw [show 0 * 3 = 0 from rfl] at hx167_1); (try rw [Addr.add_zero'] at hx167_1); (try rw [show ((0 : Int)).toNat = 0 from rfl] at hx167_2); (try rw [show 0 * 3 = 0 from rfl] at hx167_2); (try rw [Addr.add_zero'] at hx167_2); replace p167 := eq_true p167; replace q167 := eq_true q167; have p168 : 0 ≤ (1 : Int) := (by omega); have q168 : 1 < (t161.length : Int) := of_decide_eq_true (by first | (with_reducible assumption) | assumption); obtain ⟨ad168, e168, hx168_0, hx168_1, hx168_2⟩ := at_T26 (Kd.R_reads' HO163.out).2.2 1 p168 q168; obtain rfl : ad167 = ad168 := (by injection e168); (try simp only [show (1 : Int).toNat = 1 from rfl, Nat.reduceMul, Nat.reduceEqDiff, Go.Addr.add, ↓reduceIte] at hx168_0); (try simp only [show (1 : Int).toNat = 1 from rfl, Nat.reduceMul, Nat.reduceEqDiff, Go.Addr.add, ↓reduceIte] at hx168_1); (try simp only [show (1 : Int).toNat = 1 from rfl, Nat.reduceMul, Nat.reduceEqDiff, Go.Addr.add, ↓reduceIte] at hx168_2); have qi168 : (1 < t161.length) = True := eq_true (by omega); (try rw [show ((1 : Int)).toNat = 1 from rfl] at hx168_0); (try rw [show 1 * 3 = 3 from rfl] at hx168_0); (try rw [show ((1 : Int)).toNat = 1 from rfl] at hx168_1); (try rw [show 1 * 3 = 3 from rfl] at hx168_1); (try rw [show ((1 : Int)).toNat = 1 from rfl] at hx168_2); (try rw [show 1 * 3 = 3 from rfl] at hx168_2); replace p168 := eq_true p168; replace q168 := eq_true q168))
                                                                  go_ret
                                                                  exact ⟨by first | rfl | (simp [errW_none, errW_some] <;> rfl) | (simp [*, errW_none, errW_some] <;> rfl), by repeat (first | (with_reducible first | exact HB.out | apply below_alloc | apply pw_below_drewN | apply below_drew1) | exact HB.out)⟩
                                                              · rw [if_neg c40] at H
                                                                exact absurd H (by simp)
                                                            · rw [if_neg c39] at H
                                                              have c39b0 : (((rd_T26 t161 0).f2).toList == ((⟨#[104, 116, 116, 112, 58, 47, 47]⟩ : ByteArray) ++ ((((⟨#[119, 119, 119, 46]⟩ : ByteArray) ++ a0) ++ (⟨#[46]⟩ : ByteArray)) ++ a1)).toList) = false := beq_eq_false_iff_ne.mpr c39
                                                              have c39b1 : (((rd_T26 t161 0).f2).toList != ((⟨#[104, 116, 116, 112, 58, 47, 47]⟩ : ByteArray) ++ ((((⟨#[119, 119, 119, 46]⟩ : ByteArray) ++ a0) ++ (⟨#[46]⟩ : ByteArray)) ++ a1)).toList) = true := bne_iff_ne.mpr c39
                                                              obtain rfl := Option.some.inj H
                                                              go_wp2_with (first | ((with_reducible refine gate_callee (f := 9) rfl ?_); refine goesL_ (some 76) rfl rfl Tryd.func9 (by kernel_rfl) rfl #[.string ((((((((a0 ++ (⟨#[32]⟩ : ByteArray)) ++ ((((⟨#[119, 119, 119, 46]⟩ : ByteArray) ++ a0) ++ (⟨#[46]⟩ : ByteArray)) ++ a1)) ++ (⟨#[32, 40]⟩ : ByteArray)) ++ ((((⟨#[104, 116, 116, 112, 115, 58, 47, 47]⟩ : ByteArray) ++ a0) ++ (⟨#[46]⟩ : ByteArray)) ++ a1)) ++ (⟨#[41, 32]⟩ : ByteArray)) ++ (((a0 ++ (⟨#[64]⟩ : ByteArray)) ++ a1) ++ (⟨#[46, 99]⟩ : ByteArray))) ++ (⟨#[44, 32]⟩ : ByteArray)) ++ a1)] rfl (by (try simp only [List.map_toArray, List.map_cons, List.map_nil]); first | done | rfl | (simp only [List.length_drop, List.length_take]; rfl)) ?_; (with_reducible refine (auto_Find.calls k2 ((((((((a0 ++ (⟨#[32]⟩ : ByteArray)) ++ ((((⟨#[119, 119, 119, 46]⟩ : ByteArray) ++ a0) ++ (⟨#[46]⟩ : ByteArray)) ++ a1)) ++ (⟨#[32, 40]⟩ : ByteArray)) ++ ((((⟨#[104, 116, 116, 112, 115, 58, 47, 47]⟩ : ByteArray) ++ a0) ++ (⟨#[46]⟩ : ByteArray)) ++ a1)) ++ (⟨#[41, 32]⟩ : ByteArray)) ++ (((a0 ++ (⟨#[64]⟩ : ByteArray)) ++ a1) ++ (⟨#[46, 99]⟩ : ByteArray))) ++ (⟨#[44, 32]⟩ : ByteArray)) ++ a1) t161 _ ?side1 A31.out).mono ?_); (case side1 => exact Laid.go hLd (by repeat (first | (with_reducible first | exact HB.out | apply below_alloc | apply pw_below_drewN | apply below_drew1) | exact HB.out))); rintro e w52 ⟨v162, rfl, ho0, hb⟩; refine ⟨_, rfl, ?_⟩; have n0_ := Aside0.mk (Kd.R_lower ho0 (below_size (by repeat (first | (with_reducible first | exact HB.out | apply below_alloc | apply pw_below_drewN | apply below_drew1) | exact HB.out)))); have n1_ := Aside0.mk (below_step (by repeat (first | (with_reducible first | exact HB.out | apply below_alloc | apply pw_below_drewN | apply below_drew1) | exact HB.out)) hb); clear HB; have HO163 := n0_; have HB := n1_; clear n0_ n1_; (try clear hb); (try clear hb2); (try clear hk); (try clear hi); (try clear ho0)) | (go_at_call 9; (with_reducible refine (auto_Find.calls k2 ((a0 ++ (⟨#[32]⟩ : ByteArray)) ++ a1) t164 _ ?side1 A34.out).mono ?_); (case side1 => exact Laid.go hLd (by repeat (first | (with_reducible first | exact HB.out | apply below_alloc | apply pw_below_drewN | apply below_drew1) | exact HB.out))); rintro e w53 ⟨v165, rfl, ho0, hb⟩; have n0_ := Aside0.mk (Kd.R_elder' (by (with_reducible repeat (first | apply Kd.R_alloc | apply Kd.R_drewN | apply Kd.R_drew)); exact HO163.out) (Kd.R_base ho0) hb); have n1_ := Aside0.mk (Kd.R_lower (Kd.R_new' ho0 (Kd.R_lt (by (with_reducible repeat (first | apply Kd.R_alloc | apply Kd.R_drewN | apply Kd.R_drew)); exact HO163.out))) (below_size (by repeat (first | (with_reducible first | exact HB.out | apply below_alloc | apply pw_below_drewN | apply below_drew1) | exact HB.out)))); have n2_ := Aside0.mk (below_step (by repeat (first | (with_reducible first | exact HB.out | apply below_alloc | apply pw_below_drewN | apply below_drew1) | exact HB.out)) hb); clear HO163; clear HB; have HO163 := n0_; have HO166 := n1_; have HB := n2_; clear n0_ n1_ n2_; (try clear hb); (try clear hb2); (try clear hk); (try clear hi); (try clear ho0); obtain ⟨Ao54, co54, eo54⟩ := Kd.R_slice HO166.out; subst eo54; obtain ⟨Ao55, co55, eo55⟩ := Kd.R_slice HO163.out; subst eo55; have p167 : 0 ≤ (0 : Int) := (by omega); have q167 : 0 < (t161.length : Int) := of_decide_eq_true (by first | (with_reducible assumption) | assumption); obtain ⟨ad167, e167, hx167_0, hx167_1, hx167_2⟩ := at_T26 (Kd.R_reads' HO163.out).2.2 0 p167 q167; cases e167; have qi167 : (0 < t161.length) = True := eq_true (by omega); (try rw [show ((0 : Int)).toNat = 0 from rfl] at hx167_0); (try rw [show 0 * 3 = 0 from rfl] at hx167_0); (try rw [Addr.add_zero'] at hx167_0); (try rw [show ((0 : Int)).toNat = 0 from rfl] at hx167_1); (try rw [show 0 * 3 = 0 from rfl] at hx167_1); (try rw [Addr.add_zero'] at hx167_1); (try rw [show ((0 : Int)).toNat = 0 from rfl] at hx167_2); (try rw [show 0 * 3 = 0 from rfl] at hx167_2); (try rw [Addr.add_zero'] at hx167_2); replace p167 := eq_true p167; replace q167 := eq_true q167))
                                                              go_ret
                                                              exact ⟨by first | rfl | (simp [errW_none, errW_some] <;> rfl) | (simp [*, errW_none, errW_some] <;> rfl), by repeat (first | (with_reducible first | exact HB.out | apply below_alloc | apply pw_below_drewN | apply below_drew1) | exact HB.out)⟩
                                                          · rw [if_neg c38] at H
                                                            exact absurd H (by simp)
                                                        · rw [if_neg c37] at H
                                                          exact absurd H (by simp)
                                                      · rw [if_neg c36] at H
                                                        have c36b0 : ((t161.length : Int) == 3) = false := beq_eq_false_iff_ne.mpr c36
                                                        have c36b1 : ((t161.length : Int) != 3) = true := bne_iff_ne.mpr c36
                                                        obtain rfl := Option.some.inj H
                                                        go_wp2_with (first | ((with_reducible refine gate_callee (f := 9) rfl ?_); refine goesL_ (some 76) rfl rfl Tryd.func9 (by kernel_rfl) rfl #[.string ((((((((a0 ++ (⟨#[32]⟩ : ByteArray)) ++ ((((⟨#[119, 119, 119, 46]⟩ : ByteArray) ++ a0) ++ (⟨#[46]⟩ : ByteArray)) ++ a1)) ++ (⟨#[32, 40]⟩ : ByteArray)) ++ ((((⟨#[104, 116, 116, 112, 115, 58, 47, 47]⟩ : ByteArray) ++ a0) ++ (⟨#[46]⟩ : ByteArray)) ++ a1)) ++ (⟨#[41, 32]⟩ : ByteArray)) ++ (((a0 ++ (⟨#[64]⟩ : ByteArray)) ++ a1) ++ (⟨#[46, 99]⟩ : ByteArray))) ++ (⟨#[44, 32]⟩ : ByteArray)) ++ a1)] rfl (by (try simp only [List.map_toArray, List.map_cons, List.map_nil]); first | done | rfl | (simp only [List.length_drop, List.length_take]; rfl)) ?_; (with_reducible refine (auto_Find.calls k2 ((((((((a0 ++ (⟨#[32]⟩ : ByteArray)) ++ ((((⟨#[119, 119, 119, 46]⟩ : ByteArray) ++ a0) ++ (⟨#[46]⟩ : ByteArray)) ++ a1)) ++ (⟨#[32, 40]⟩ : ByteArray)) ++ ((((⟨#[104, 116, 116, 112, 115, 58, 47, 47]⟩ : ByteArray) ++ a0) ++ (⟨#[46]⟩ : ByteArray)) ++ a1)) ++ (⟨#[41, 32]⟩ : ByteArray)) ++ (((a0 ++ (⟨#[64]⟩ : ByteArray)) ++ a1) ++ (⟨#[46, 99]⟩ : ByteArray))) ++ (⟨#[44, 32]⟩ : ByteArray)) ++ a1) t161 _ ?side1 A31.out).mono ?_); (case side1 => exact Laid.go hLd (by repeat (first | (with_reducible first | exact HB.out | apply below_alloc | apply pw_below_drewN | apply below_drew1) | exact HB.out))); rintro e w56 ⟨v162, rfl, ho0, hb⟩; refine ⟨_, rfl, ?_⟩; have n0_ := Aside0.mk (Kd.R_lower ho0 (below_size (by repeat (first | (with_reducible first | exact HB.out | apply below_alloc | apply pw_below_drewN | apply below_drew1) | exact HB.out)))); have n1_ := Aside0.mk (below_step (by repeat (first | (with_reducible first | exact HB.out | apply below_alloc | apply pw_below_drewN | apply below_drew1) | exact HB.out)) hb); clear HB; have HO163 := n0_; have HB := n1_; clear n0_ n1_; (try clear hb); (try clear hb2); (try clear hk); (try clear hi); (try clear ho0)) | (go_at_call 9; (with_reducible refine (auto_Find.calls k2 ((a0 ++ (⟨#[32]⟩ : ByteArray)) ++ a1) t164 _ ?side1 A34.out).mono ?_); (case side1 => exact Laid.go hLd (by repeat (first | (with_reducible first | exact HB.out | apply below_alloc | apply pw_below_drewN | apply below_drew1) | exact HB.out))); rintro e w57 ⟨v165, rfl, ho0, hb⟩; have n0_ := Aside0.mk (Kd.R_elder' (by (with_reducible repeat (first | apply Kd.R_alloc | apply Kd.R_drewN | apply Kd.R_drew)); exact HO163.out) (Kd.R_base ho0) hb); have n1_ := Aside0.mk (Kd.R_lower (Kd.R_new' ho0 (Kd.R_lt (by (with_reducible repeat (first | apply Kd.R_alloc | apply Kd.R_drewN | apply Kd.R_drew)); exact HO163.out))) (below_size (by repeat (first | (with_reducible first | exact HB.out | apply below_alloc | apply pw_below_drewN | apply below_drew1) | exact HB.out)))); have n2_ := Aside0.mk (below_step (by repeat (first | (with_reducible first | exact HB.out | apply below_alloc | apply pw_below_drewN | apply below_drew1) | exact HB.out)) hb); clear HO163; clear HB; have HO163 := n0_; have HO166 := n1_; have HB := n2_; clear n0_ n1_ n2_; (try clear hb); (try clear hb2); (try clear hk); (try clear hi); (try clear ho0); obtain ⟨Ao58, co58, eo58⟩ := Kd.R_slice HO166.out; subst eo58; obtain ⟨Ao59, co59, eo59⟩ := Kd.R_slice HO163.out; subst eo59))
                                                        go_ret
                                                        exact ⟨by first | rfl | (simp [errW_none, errW_some] <;> rfl) | (simp [*, errW_none, errW_some] <;> rfl), by repeat (first | (with_reducible first | exact HB.out | apply below_alloc | apply pw_below_drewN | apply below_drew1) | exact HB.out)⟩
                                                    · rw [if_neg c35] at H
                                                      have c35b0 : ((t164.length : Int) == 0) = false := beq_eq_false_iff_ne.mpr c35
                                                      have c35b1 : ((t164.length : Int) != 0) = true := bne_iff_ne.mpr c35
                                                      have c35b2 : ¬ (t164 = []) := fun h_ => c35 (by rw [h_]; rfl)
                                                      obtain rfl := Option.some.inj H
                                                      go_wp2_with (first | ((with_reducible refine gate_callee (f := 9) rfl ?_); refine goesL_ (some 76) rfl rfl Tryd.func9 (by kernel_rfl) rfl #[.string ((((((((a0 ++ (⟨#[32]⟩ : ByteArray)) ++ ((((⟨#[119, 119, 119, 46]⟩ : ByteArray) ++ a0) ++ (⟨#[46]⟩ : ByteArray)) ++ a1)) ++ (⟨#[32, 40]⟩ : ByteArray)) ++ ((((⟨#[104, 116, 116, 112, 115, 58, 47, 47]⟩ : ByteArray) ++ a0) ++ (⟨#[46]⟩ : ByteArray)) ++ a1)) ++ (⟨#[41, 32]⟩ : ByteArray)) ++ (((a0 ++ (⟨#[64]⟩ : ByteArray)) ++ a1) ++ (⟨#[46, 99]⟩ : ByteArray))) ++ (⟨#[44, 32]⟩ : ByteArray)) ++ a1)] rfl (by (try simp only [List.map_toArray, List.map_cons, List.map_nil]); first | done | rfl | (simp only [List.length_drop, List.length_take]; rfl)) ?_; (with_reducible refine (auto_Find.calls k2 ((((((((a0 ++ (⟨#[32]⟩ : ByteArray)) ++ ((((⟨#[119, 119, 119, 46]⟩ : ByteArray) ++ a0) ++ (⟨#[46]⟩ : ByteArray)) ++ a1)) ++ (⟨#[32, 40]⟩ : ByteArray)) ++ ((((⟨#[104, 116, 116, 112, 115, 58, 47, 47]⟩ : ByteArray) ++ a0) ++ (⟨#[46]⟩ : ByteArray)) ++ a1)) ++ (⟨#[41, 32]⟩ : ByteArray)) ++ (((a0 ++ (⟨#[64]⟩ : ByteArray)) ++ a1) ++ (⟨#[46, 99]⟩ : ByteArray))) ++ (⟨#[44, 32]⟩ : ByteArray)) ++ a1) t161 _ ?side1 A31.out).mono ?_); (case side1 => exact Laid.go hLd (by repeat (first | (with_reducible first | exact HB.out | apply below_alloc | apply pw_below_drewN | apply below_drew1) | exact HB.out))); rintro e w60 ⟨v162, rfl, ho0, hb⟩; refine ⟨_, rfl, ?_⟩; have n0_ := Aside0.mk (Kd.R_lower ho0 (below_size (by repeat (first | (with_reducible first | exact HB.out | apply below_alloc | apply pw_below_drewN | apply below_drew1) | exact HB.out)))); have n1_ := Aside0.mk (below_step (by repeat (first | (with_reducible first | exact HB.out | apply below_alloc | apply pw_below_drewN | apply below_drew1) | exact HB.out)) hb); clear HB; have HO163 := n0_; have HB := n1_; clear n0_ n1_; (try clear hb); (try clear hb2); (try clear hk); (try clear hi); (try clear ho0)) | (go_at_call 9; (with_reducible refine (auto_Find.calls k2 ((a0 ++ (⟨#[32]⟩ : ByteArray)) ++ a1) t164 _ ?side1 A34.out).mono ?_); (case side1 => exact Laid.go hLd (by repeat (first | (with_reducible first | exact HB.out | apply below_alloc | apply pw_below_drewN | apply below_drew1) | exact HB.out))); rintro e w61 ⟨v165, rfl, ho0, hb⟩; have n0_ := Aside0.mk (Kd.R_elder' (by (with_reducible repeat (first | apply Kd.R_alloc | apply Kd.R_drewN | apply Kd.R_drew)); exact HO163.out) (Kd.R_base ho0) hb); have n1_ := Aside0.mk (Kd.R_lower (Kd.R_new' ho0 (Kd.R_lt (by (with_reducible repeat (first | apply Kd.R_alloc | apply Kd.R_drewN | apply Kd.R_drew)); exact HO163.out))) (below_size (by repeat (first | (with_reducible first | exact HB.out | apply below_alloc | apply pw_below_drewN | apply below_drew1) | exact HB.out)))); have n2_ := Aside0.mk (below_step (by repeat (first | (with_reducible first | exact HB.out | apply below_alloc | apply pw_below_drewN | apply below_drew1) | exact HB.out)) hb); clear HO163; clear HB; have HO163 := n0_; have HO166 := n1_; have HB := n2_; clear n0_ n1_ n2_; (try clear hb); (try clear hb2); (try clear hk); (try clear hi); (try clear ho0); obtain ⟨Ao62, co62, eo62⟩ := Kd.R_slice HO166.out; subst eo62))
                                                      go_ret
                                                      exact ⟨by first | rfl | (simp [errW_none, errW_some] <;> rfl) | (simp [*, errW_none, errW_some] <;> rfl), by repeat (first | (with_reducible first | exact HB.out | apply below_alloc | apply pw_below_drewN | apply below_drew1) | exact HB.out)⟩
                                                  · rw [if_neg c33] at H
                                                    exact absurd H (by simp)
                                                · replace c32 := Bool.eq_false_iff.mpr c32
                                                  subst c32
                                                  have H1 : (some false) = some r := by rw [if_neg (show ¬ (false = true) by decide)] at H; exact H
                                                  clear H
                                                  have H := H1
                                                  clear H1
                                                  obtain rfl := Option.some.inj H
                                                  go_wp2_with (first | ((with_reducible refine gate_callee (f := 9) rfl ?_); refine goesL_ (some 76) rfl rfl Tryd.func9 (by kernel_rfl) rfl #[.string ((((((((a0 ++ (⟨#[32]⟩ : ByteArray)) ++ ((((⟨#[119, 119, 119, 46]⟩ : ByteArray) ++ a0) ++ (⟨#[46]⟩ : ByteArray)) ++ a1)) ++ (⟨#[32, 40]⟩ : ByteArray)) ++ ((((⟨#[104, 116, 116, 112, 115, 58, 47, 47]⟩ : ByteArray) ++ a0) ++ (⟨#[46]⟩ : ByteArray)) ++ a1)) ++ (⟨#[41, 32]⟩ : ByteArray)) ++ (((a0 ++ (⟨#[64]⟩ : ByteArray)) ++ a1) ++ (⟨#[46, 99]⟩ : ByteArray))) ++ (⟨#[44, 32]⟩ : ByteArray)) ++ a1)] rfl (by (try simp only [List.map_toArray, List.map_cons, List.map_nil]); first | done | rfl | (simp only [List.length_drop, List.length_take]; rfl)) ?_; (with_reducible refine (auto_Find.calls k2 ((((((((a0 ++ (⟨#[32]⟩ : ByteArray)) ++ ((((⟨#[119, 119, 119, 46]⟩ : ByteArray) ++ a0) ++ (⟨#[46]⟩ : ByteArray)) ++ a1)) ++ (⟨#[32, 40]⟩ : ByteArray)) ++ ((((⟨#[104, 116, 116, 112, 115, 58, 47, 47]⟩ : ByteArray) ++ a0) ++ (⟨#[46]⟩ : ByteArray)) ++ a1)) ++ (⟨#[41, 32]⟩ : ByteArray)) ++ (((a0 ++ (⟨#[64]⟩ : ByteArray)) ++ a1) ++ (⟨#[46, 99]⟩ : ByteArray))) ++ (⟨#[44, 32]⟩ : ByteArray)) ++ a1) t161 _ ?side1 A31.out).mono ?_); (case side1 => exact Laid.go hLd (by repeat (first | (with_reducible first | exact HB.out | apply below_alloc | apply pw_below_drewN | apply below_drew1) | exact HB.out))); rintro e w63 ⟨v162, rfl, ho0, hb⟩; refine ⟨_, rfl, ?_⟩; have n0_ := Aside0.mk (Kd.R_lower ho0 (below_size (by repeat (first | (with_reducible first | exact HB.out | apply below_alloc | apply pw_below_drewN | apply below_drew1) | exact HB.out)))); have n1_ := Aside0.mk (below_step (by repeat (first | (with_reducible first | exact HB.out | apply below_alloc | apply pw_below_drewN | apply below_drew1) | exact HB.out)) hb); clear HB; have HO163 := n0_; have HB := n1_; clear n0_ n1_; (try clear hb); (try clear hb2); (try clear hk); (try clear hi); (try clear ho0)))
                                                  go_ret
                                                  exact ⟨by first | rfl | (simp [errW_none, errW_some] <;> rfl) | (simp [*, errW_none, errW_some] <;> rfl), by repeat (first | (with_reducible first | exact HB.out | apply below_alloc | apply pw_below_drewN | apply below_drew1) | exact HB.out)⟩
                                              · rw [if_neg c30] at H
                                                exact absurd H (by simp)
                                            · rw [if_neg c29] at H
                                              exact absurd H (by simp)
                                          · rw [if_neg c28] at H
                                            exact absurd H (by simp)
                                        · rw [if_neg c27] at H
                                          exact absurd H (by simp)
                                      · rw [if_neg c26] at H
                                        exact absurd H (by simp)
                                    · rw [if_neg c25] at H
                                      exact absurd H (by simp)
                                  · rw [if_neg c24] at H
                                    exact absurd H (by simp)
                                · rw [if_neg c23] at H
                                  exact absurd H (by simp)
                              · rw [if_neg c22] at H
                                exact absurd H (by simp)
                            · rw [if_neg c21] at H
                              exact absurd H (by simp)
                          · rw [if_neg c20] at H
                            exact absurd H (by simp)
                        · rw [if_neg c19] at H
                          exact absurd H (by simp)
                      · rw [if_neg c18] at H
                        exact absurd H (by simp)
                    · rw [if_neg c17] at H
                      exact absurd H (by simp)
                  · rw [if_neg c16] at H
                    exact absurd H (by simp)
                · rw [if_neg c15] at H
                  exact absurd H (by simp)
            · rw [if_neg c9] at H
              exact absurd H (by simp)

end Go.Proofs.YtddmddlaamcpiaaDoor.PA
