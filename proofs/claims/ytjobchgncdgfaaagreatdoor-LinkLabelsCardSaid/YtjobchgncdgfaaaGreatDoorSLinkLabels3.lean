/-
  The law LinkLabels holds: for every input it answers true, its arguments read behind the call as before. Conditions: the listed package-level variables as the program's text lays them (tied by the card).
-/
import Derived.Test.YtjobchgncdgfaaaGreatDoorSLinkLabels1
import Derived.Test.YtjobchgncdgfaaaGreatDoorSLinkLabels2
namespace Go.Proofs.YtjobchgncdgfaaaGreatDoor.PA
open Go.RowKit Go.Proofs.YtjobchgncdgfaaaGreatDoorW.PrintWords Go.Proofs.YtjobchgncdgfaaaGreatDoorW.PrintLast Go.Proofs.YtjobchgncdgfaaaGreatDoorW.PrintMore
attribute [local go_sem] max2_int min2_int max_two min_two max_three min_three max_four min_four   -- for this text's walks alone
set_option linter.unusedVariables false
set_option linter.unusedSimpArgs false

/-! ### incipitlaw09_LinkLabels: function 7 -/
mutual
def incipitlaw09_LinkLabels.j0 : Nat → ByteArray → ByteArray → Bool → Bool → Option (Bool)
  | 0, _, _, _, _ => none
  | k + 1, x0, x1, x5, x22 => if x22 = true then (some x5) else (incipitlaw09_LinkLabels.l0 k x0 x1 x5 true 0)
def incipitlaw09_LinkLabels.l0 : Nat → ByteArray → ByteArray → Bool → Bool → Int → Option (Bool)
  | 0, _, _, _, _, _ => none
  | k + 1, x0, x1, x5, x6, x7 => if x7 < (x0.size : Int) then (if 0 ≤ x7 then (if (bt x0 x7) = 91 then (some x5) else (if (bt x0 x7) = 93 then (some x5) else (if (bt x0 x7) = 92 then (some x5) else (if x6 = true then (if (bt x0 x7) = 32 then (incipitlaw09_LinkLabels.l0 k x0 x1 x5 true (wrap64 (x7 + 1))) else (if (bt x0 x7) = 9 then (incipitlaw09_LinkLabels.l0 k x0 x1 x5 true (wrap64 (x7 + 1))) else (incipitlaw09_LinkLabels.l0 k x0 x1 x5 ((bt x0 x7) == 10) (wrap64 (x7 + 1))))) else (incipitlaw09_LinkLabels.l0 k x0 x1 x5 false (wrap64 (x7 + 1))))))) else (none)) else (if 1 + x0.size ≤ 9223372036854775807 then (if ((⟨#[91]⟩ : ByteArray) ++ x0).size + 1 ≤ 9223372036854775807 then (if (((⟨#[91]⟩ : ByteArray) ++ x0) ++ (⟨#[93]⟩ : ByteArray)).size + x1.size ≤ 9223372036854775807 then ((link_Label.f ((((⟨#[91]⟩ : ByteArray) ++ x0) ++ (⟨#[93]⟩ : ByteArray)) ++ x1)).bind fun bt237 => (if ((⟨#[91]⟩ : ByteArray) ++ x0).size + 2 ≤ 9223372036854775807 then (if (((⟨#[91]⟩ : ByteArray) ++ x0) ++ (⟨#[91, 93]⟩ : ByteArray)).size + x1.size ≤ 9223372036854775807 then ((link_Label.f ((((⟨#[91]⟩ : ByteArray) ++ x0) ++ (⟨#[91, 93]⟩ : ByteArray)) ++ x1)).bind fun bt239 => (if 2 + x0.size ≤ 9223372036854775807 then (if ((⟨#[91, 120]⟩ : ByteArray) ++ x0).size + 3 ≤ 9223372036854775807 then (if (((⟨#[91, 120]⟩ : ByteArray) ++ x0) ++ (⟨#[92, 91, 93]⟩ : ByteArray)).size + x1.size ≤ 9223372036854775807 then ((link_Label.f ((((⟨#[91, 120]⟩ : ByteArray) ++ x0) ++ (⟨#[92, 91, 93]⟩ : ByteArray)) ++ x1)).bind fun bt241 => (if x6 = true then (if x5 = true then (if bt237.2 = 0 then (if bt239.2 = 0 then (if bt241.2 = (wrap64 ((x0.size : Int) + 5)) then (some (bt241.1.toList != ([] : List UInt8))) else (some false)) else (some false)) else (some false)) else (some false)) else (if x5 = true then (if bt237.1.toList = x0.toList then (if bt237.2 = (wrap64 ((x0.size : Int) + 2)) then (if bt239.2 = 0 then (if ((⟨#[120]⟩ : ByteArray) ++ x0).size + 2 ≤ 9223372036854775807 then (if bt241.1.toList = (((⟨#[120]⟩ : ByteArray) ++ x0) ++ (⟨#[92, 91]⟩ : ByteArray)).toList then (some (bt241.2 == (wrap64 ((x0.size : Int) + 5)))) else (some false)) else (none)) else (some false)) else (some false)) else (some false)) else (some false)))) else (none)) else (none)) else (none))) else (none)) else (none))) else (none)) else (none)) else (none))
end
def incipitlaw09_LinkLabels.f (k : Nat) (a0 : ByteArray) (a1 : ByteArray) : Option (Bool) := (incipitlaw09_awake.f k).bind fun t236 => (if (a0.size : Int) > 900 then (incipitlaw09_LinkLabels.j0 k a0 a1 t236 true) else (incipitlaw09_LinkLabels.j0 k a0 a1 t236 (decide ((a1.size : Int) > 300))))
theorem incipitlaw09_LinkLabels.mono_l : ∀ k, (∀ y0 y1 y2 y3, LeO (incipitlaw09_LinkLabels.j0 k y0 y1 y2 y3) (incipitlaw09_LinkLabels.j0 (k + 1) y0 y1 y2 y3)) ∧ (∀ y0 y1 y2 y3 y4, LeO (incipitlaw09_LinkLabels.l0 k y0 y1 y2 y3 y4) (incipitlaw09_LinkLabels.l0 (k + 1) y0 y1 y2 y3 y4))
  | 0 => ⟨fun _ _ _ _ r h => by simp [incipitlaw09_LinkLabels.j0] at h, fun _ _ _ _ _ r h => by simp [incipitlaw09_LinkLabels.l0] at h⟩
  | k + 1 => by
    obtain ⟨ih0, ih1⟩ := incipitlaw09_LinkLabels.mono_l k
    refine ⟨?_, ?_⟩
    · intro y0 y1 y2 y3
      unfold incipitlaw09_LinkLabels.j0
      repeat' first
      | (with_reducible exact ih0 _ _ _ _)
      | (with_reducible exact ih1 _ _ _ _ _)
      | (with_reducible exact incipitlaw09_awake.mono _)
      | (with_reducible exact LeO.refl _)
      | (with_reducible exact LeO.none _)
      | (with_reducible refine LeO.ite ?_ ?_)
      | (with_reducible refine LeO.bind ?_ (fun _ => ?_))
      | exact ih0 _ _ _ _
      | exact ih1 _ _ _ _ _
      | exact incipitlaw09_awake.mono _
      | exact LeO.none _
      | refine LeO.ite ?_ ?_
      | refine LeO.bind ?_ (fun _ => ?_)
    · intro y0 y1 y2 y3 y4
      unfold incipitlaw09_LinkLabels.l0
      repeat' first
      | (with_reducible exact ih0 _ _ _ _)
      | (with_reducible exact ih1 _ _ _ _ _)
      | (with_reducible exact incipitlaw09_awake.mono _)
      | (with_reducible exact LeO.refl _)
      | (with_reducible exact LeO.none _)
      | (with_reducible refine LeO.ite ?_ ?_)
      | (with_reducible refine LeO.bind ?_ (fun _ => ?_))
      | exact ih0 _ _ _ _
      | exact ih1 _ _ _ _ _
      | exact incipitlaw09_awake.mono _
      | exact LeO.none _
      | refine LeO.ite ?_ ?_
      | refine LeO.bind ?_ (fun _ => ?_)
theorem incipitlaw09_LinkLabels.mono : ∀ a0 a1 k, LeO (incipitlaw09_LinkLabels.f k a0 a1) (incipitlaw09_LinkLabels.f (k + 1) a0 a1) := by
  intro a0 a1 k
  obtain ⟨ih0, ih1⟩ := incipitlaw09_LinkLabels.mono_l k
  unfold incipitlaw09_LinkLabels.f
  repeat' first
      | (with_reducible exact ih0 _ _ _ _)
      | (with_reducible exact ih1 _ _ _ _ _)
      | (with_reducible exact incipitlaw09_awake.mono _)
      | (with_reducible exact LeO.refl _)
      | (with_reducible exact LeO.none _)
      | (with_reducible refine LeO.ite ?_ ?_)
      | (with_reducible refine LeO.bind ?_ (fun _ => ?_))
      | exact ih0 _ _ _ _
      | exact ih1 _ _ _ _ _
      | exact incipitlaw09_awake.mono _
      | exact LeO.none _
      | refine LeO.ite ?_ ?_
      | refine LeO.bind ?_ (fun _ => ?_)
set_option maxHeartbeats 8000000 in
set_option maxRecDepth 100000 in
theorem incipitlaw09_LinkLabels.calls (k : Nat) (a0 : ByteArray) (a1 : ByteArray) (r : Bool) (w : World) (hLd : Laid w) (h : incipitlaw09_LinkLabels.f k a0 a1 = some r) :
    Calls Tryz.prog 7 #[.string a0, .string a1] w fun e w' => e = .returned (.bool r) ∧ Below w.heap.size w w' := by
  have HB := Aside0.mk (Below.refl w.heap.size w)
  have H : ((incipitlaw09_awake.f k).bind fun t236 => (if (a0.size : Int) > 900 then (incipitlaw09_LinkLabels.j0 k a0 a1 t236 true) else (incipitlaw09_LinkLabels.j0 k a0 a1 t236 (decide ((a1.size : Int) > 300))))) = some r := h
  clear h
  replace H := Option.bind_eq_some_iff.mp H
  obtain ⟨t236, A30, H⟩ := H
  replace H : (if (a0.size : Int) > 900 then (incipitlaw09_LinkLabels.j0 k a0 a1 t236 true) else (incipitlaw09_LinkLabels.j0 k a0 a1 t236 (decide ((a1.size : Int) > 300)))) = some r := H
  have A3 := Aside0.mk A30
  clear A30
  have HC4 := Aside0.mk H
  clear H
  go_enter Tryz.func7, Tryz.ntmps7
  go_upto_region 2 with (first | ((with_reducible refine gate_callee (f := 9) rfl ?_); refine goesL_ (some 14) rfl rfl Tryz.func9 (by kernel_rfl) rfl #[] rfl (by (try simp only [List.map_toArray, List.map_cons, List.map_nil]); first | done | rfl | (simp only [List.length_drop, List.length_take]; rfl)) ?_; (with_reducible refine (incipitlaw09_awake.calls k  t236 _ ?side1 A3.out).mono ?_); (case side1 => exact Laid.go hLd (by repeat (first | (with_reducible first | exact HB.out | apply below_alloc | apply pw_below_drewN | apply below_drew1) | exact HB.out))); rintro e w5 ⟨rfl, hb⟩; refine ⟨_, rfl, ?_⟩; have n0_ := Aside0.mk (below_step (by repeat (first | (with_reducible first | exact HB.out | apply below_alloc | apply pw_below_drewN | apply below_drew1) | exact HB.out)) hb); clear HB; have HB := n0_; clear n0_; (try clear hb); (try clear hb2); (try clear hk); (try clear hi)))
  (try simp only [Act.put, List.setIfInBounds_toArray, List.set_cons_zero, List.set_cons_succ])
  go_cut [22] (fun v22 wc => ∃ (kq : Nat) (x22_3 : Bool), v22 = .bool x22_3 ∧ Aside0 (incipitlaw09_LinkLabels.j0 kq a0 a1 t236 x22_3 = some r) ∧ Aside0 (kq ≤ k) ∧ Aside0 (Below w.heap.size w wc))
  case first =>
    have H := HC4.out
    clear HC4
    by_cases c6 : (a0.size : Int) > 900
    · rw [if_pos c6] at H
      have c6b0 : decide (900 < (a0.size : Int)) = true := decide_eq_true c6
      have c6b1 : decide (900 < a0.size) = true := decide_eq_true (by omega)
      clear c6
      (first | rw [c6b0] | (simp only [i64_w, i32_w]; rw [c6b0]) | skip)
      have H' := Aside0.mk H
      clear H
      go_wp2
      go_meet
      case rel => exact ⟨_, (true), (by first | rfl | (simp; done) | (simp [*]; done)), H', ⟨by first | omega | exact Nat.le_refl _⟩, ⟨by repeat (first | (with_reducible first | exact HB.out | apply below_alloc | apply pw_below_drewN | apply below_drew1) | exact HB.out)⟩⟩
    · rw [if_neg c6] at H
      have c6b0 : decide (900 < (a0.size : Int)) = false := decide_eq_false c6
      have c6b1 : decide (900 < a0.size) = false := decide_eq_false (by omega)
      clear c6
      (first | rw [c6b0] | (simp only [i64_w, i32_w]; rw [c6b0]) | skip)
      have H' := Aside0.mk H
      clear H
      go_wp2
      go_meet
      case rel => exact ⟨_, (decide ((a1.size : Int) > 300)), (by first | rfl | (simp; done) | (simp [*]; done)), H', ⟨by first | omega | exact Nat.le_refl _⟩, ⟨by repeat (first | (with_reducible first | exact HB.out | apply below_alloc | apply pw_below_drewN | apply below_drew1) | exact HB.out)⟩⟩
  case rest =>
    clear HC4
    try clear p2
    try clear c6
    try clear c6b0
    try clear c6b1
    obtain ⟨kq, x22_3, rfl, HA, HJ3, HB⟩ := hcut
    cases kq with
    | zero => exact absurd HA.out (by simp [incipitlaw09_LinkLabels.j0])
    | succ kj3 =>
      have H := HA.out
      clear HA
      simp only [incipitlaw09_LinkLabels.j0] at H
      by_cases c7 : x22_3 = true
      · subst c7
        have H1 : (some t236) = some r := by rw [if_pos rfl] at H; exact H
        clear H
        have H := H1
        clear H1
        obtain rfl := Option.some.inj H
        go_wp2
        go_ret
        exact ⟨by first | rfl | exact retNe _ | (refine retEq ?_; first | exact szw c57b7 (by decide) (by decide) | exact szw c31b7 (by decide) (by decide) | exact szw c30b7 (by decide) (by decide) | exact szw c27b7 (by decide) (by decide) | exact szw c26b7 (by decide) (by decide) | exact szw c24b7 (by decide) (by decide) | exact szw c23b7 (by decide) (by decide)) | (simp [errW_none, errW_some] <;> rfl) | (simp [*, errW_none, errW_some] <;> rfl), by repeat (first | (with_reducible first | exact HB.out | apply below_alloc | apply pw_below_drewN | apply below_drew1) | exact HB.out)⟩
      · replace c7 := Bool.eq_false_iff.mpr c7
        subst c7
        have H1 : (incipitlaw09_LinkLabels.l0 kj3 a0 a1 t236 true 0) = some r := by rw [if_neg (show ¬ (false = true) by decide)] at H; exact H
        clear H
        have H := H1
        clear H1
        have H' := Aside0.mk H
        clear H
        go_wp2
        go_loopg [6, 7] kj3 (fun kq v6 v7 w' => ∃ (x6_2 : Bool) (x7_2 : Int), v6 = .bool x6_2 ∧ v7 = .int .i64 x7_2 ∧ Aside0 (incipitlaw09_LinkLabels.l0 kq a0 a1 t236 x6_2 x7_2 = some r) ∧ Aside0 (kq ≤ kj3) ∧ Aside0 (Below w.heap.size w w'))
        case atStart => exact ⟨(true), (0), (by first | rfl | (simp; done) | (simp [*]; done)), (by first | rfl | (simp; done) | (simp [*]; done)), H', ⟨Nat.le_refl _⟩, ⟨by repeat (first | (with_reducible first | exact HB.out | apply below_alloc | apply pw_below_drewN | apply below_drew1) | exact HB.out)⟩⟩
        case round =>
          clear H'
          try clear p2
          try clear c6
          try clear c6b0
          try clear c6b1
          try clear c7
          try clear p2
          obtain ⟨x6_2, x7_2, rfl, rfl, HA, HK2, HB⟩ := hrel
          cases gk with
          | zero => exact absurd HA.out (by simp [incipitlaw09_LinkLabels.l0])
          | succ k2 =>
            have H := HA.out
            clear HA
            simp only [incipitlaw09_LinkLabels.l0] at H
            by_cases c8 : x7_2 < (a0.size : Int)
            · rw [if_pos c8] at H
              have c8b0 : decide (x7_2 < (a0.size : Int)) = true := decide_eq_true c8
              clear c8
              by_cases c9 : 0 ≤ x7_2
              · rw [if_pos c9] at H
                have c9b0 : decide (0 ≤ x7_2) = true := decide_eq_true c9
                clear c9
                by_cases c11 : (bt a0 x7_2) = 91
                · rw [if_pos c11] at H
                  have c11b0 : ((bt a0 x7_2) == 91) = true := beq_iff_eq.mpr c11
                  have c11b1 : ((bt a0 x7_2) != 91) = false := bne_eq_false_iff_eq.mpr c11
                  clear c11
                  obtain rfl := Option.some.inj H
                  have p10 : 0 ≤ (x7_2 : Int) := of_decide_eq_true (by first | (with_reducible assumption) | assumption)
                  have q10 : x7_2 < (a0.size : Int) := of_decide_eq_true (by first | (with_reducible assumption) | assumption)
                  have hx10 := bt_at a0 x7_2
                  replace p10 := eq_true p10
                  replace q10 := eq_true q10
                  go_wp2
                  go_ret
                  exact ⟨by first | rfl | exact retNe _ | (refine retEq ?_; first | exact szw c57b7 (by decide) (by decide) | exact szw c31b7 (by decide) (by decide) | exact szw c30b7 (by decide) (by decide) | exact szw c27b7 (by decide) (by decide) | exact szw c26b7 (by decide) (by decide) | exact szw c24b7 (by decide) (by decide) | exact szw c23b7 (by decide) (by decide)) | (simp [errW_none, errW_some] <;> rfl) | (simp [*, errW_none, errW_some] <;> rfl), by repeat (first | (with_reducible first | exact HB.out | apply below_alloc | apply pw_below_drewN | apply below_drew1) | exact HB.out)⟩
                · rw [if_neg c11] at H
                  have c11b0 : ((bt a0 x7_2) == 91) = false := beq_eq_false_iff_ne.mpr c11
                  have c11b1 : ((bt a0 x7_2) != 91) = true := bne_iff_ne.mpr c11
                  by_cases c13 : (bt a0 x7_2) = 93
                  · rw [if_pos c13] at H
                    have c13b0 : ((bt a0 x7_2) == 93) = true := beq_iff_eq.mpr c13
                    have c13b1 : ((bt a0 x7_2) != 93) = false := bne_eq_false_iff_eq.mpr c13
                    clear c13
                    obtain rfl := Option.some.inj H
                    have p10 : 0 ≤ (x7_2 : Int) := of_decide_eq_true (by first | (with_reducible assumption) | assumption)
                    have q10 : x7_2 < (a0.size : Int) := of_decide_eq_true (by first | (with_reducible assumption) | assumption)
                    have hx10 := bt_at a0 x7_2
                    replace p10 := eq_true p10
                    replace q10 := eq_true q10
                    have p12 : 0 ≤ (x7_2 : Int) := of_decide_eq_true (by first | (with_reducible assumption) | assumption)
                    have q12 : x7_2 < (a0.size : Int) := of_decide_eq_true (by first | (with_reducible assumption) | assumption)
                    have hx12 := bt_at a0 x7_2
                    replace p12 := eq_true p12
                    replace q12 := eq_true q12
                    go_wp2
                    go_ret
                    exact ⟨by first | rfl | exact retNe _ | (refine retEq ?_; first | exact szw c57b7 (by decide) (by decide) | exact szw c31b7 (by decide) (by decide) | exact szw c30b7 (by decide) (by decide) | exact szw c27b7 (by decide) (by decide) | exact szw c26b7 (by decide) (by decide) | exact szw c24b7 (by decide) (by decide) | exact szw c23b7 (by decide) (by decide)) | (simp [errW_none, errW_some] <;> rfl) | (simp [*, errW_none, errW_some] <;> rfl), by repeat (first | (with_reducible first | exact HB.out | apply below_alloc | apply pw_below_drewN | apply below_drew1) | exact HB.out)⟩
                  · rw [if_neg c13] at H
                    have c13b0 : ((bt a0 x7_2) == 93) = false := beq_eq_false_iff_ne.mpr c13
                    have c13b1 : ((bt a0 x7_2) != 93) = true := bne_iff_ne.mpr c13
                    by_cases c15 : (bt a0 x7_2) = 92
                    · rw [if_pos c15] at H
                      have c15b0 : ((bt a0 x7_2) == 92) = true := beq_iff_eq.mpr c15
                      have c15b1 : ((bt a0 x7_2) != 92) = false := bne_eq_false_iff_eq.mpr c15
                      clear c15
                      obtain rfl := Option.some.inj H
                      have p10 : 0 ≤ (x7_2 : Int) := of_decide_eq_true (by first | (with_reducible assumption) | assumption)
                      have q10 : x7_2 < (a0.size : Int) := of_decide_eq_true (by first | (with_reducible assumption) | assumption)
                      have hx10 := bt_at a0 x7_2
                      replace p10 := eq_true p10
                      replace q10 := eq_true q10
                      have p12 : 0 ≤ (x7_2 : Int) := of_decide_eq_true (by first | (with_reducible assumption) | assumption)
                      have q12 : x7_2 < (a0.size : Int) := of_decide_eq_true (by first | (with_reducible assumption) | assumption)
                      have hx12 := bt_at a0 x7_2
                      replace p12 := eq_true p12
                      replace q12 := eq_true q12
                      have p14 : 0 ≤ (x7_2 : Int) := of_decide_eq_true (by first | (with_reducible assumption) | assumption)
                      have q14 : x7_2 < (a0.size : Int) := of_decide_eq_true (by first | (with_reducible assumption) | assumption)
                      have hx14 := bt_at a0 x7_2
                      replace p14 := eq_true p14
                      replace q14 := eq_true q14
                      go_wp2
                      go_ret
                      exact ⟨by first | rfl | exact retNe _ | (refine retEq ?_; first | exact szw c57b7 (by decide) (by decide) | exact szw c31b7 (by decide) (by decide) | exact szw c30b7 (by decide) (by decide) | exact szw c27b7 (by decide) (by decide) | exact szw c26b7 (by decide) (by decide) | exact szw c24b7 (by decide) (by decide) | exact szw c23b7 (by decide) (by decide)) | (simp [errW_none, errW_some] <;> rfl) | (simp [*, errW_none, errW_some] <;> rfl), by repeat (first | (with_reducible first | exact HB.out | apply below_alloc | apply pw_below_drewN | apply below_drew1) | exact HB.out)⟩
                    · rw [if_neg c15] at H
                      have c15b0 : ((bt a0 x7_2) == 92) = false := beq_eq_false_iff_ne.mpr c15
                      have c15b1 : ((bt a0 x7_2) != 92) = true := bne_iff_ne.mpr c15
                      by_cases c16 : x6_2 = true
                      · subst c16
                        have H1 : (if (bt a0 x7_2) = 32 then (incipitlaw09_LinkLabels.l0 k2 a0 a1 t236 true (wrap64 (x7_2 + 1))) else (if (bt a0 x7_2) = 9 then (incipitlaw09_LinkLabels.l0 k2 a0 a1 t236 true (wrap64 (x7_2 + 1))) else (incipitlaw09_LinkLabels.l0 k2 a0 a1 t236 ((bt a0 x7_2) == 10) (wrap64 (x7_2 + 1))))) = some r := by rw [if_pos rfl] at H; exact H
                        clear H
                        have H := H1
                        clear H1
                        by_cases c18 : (bt a0 x7_2) = 32
                        · rw [if_pos c18] at H
                          have c18b0 : ((bt a0 x7_2) == 32) = true := beq_iff_eq.mpr c18
                          have c18b1 : ((bt a0 x7_2) != 32) = false := bne_eq_false_iff_eq.mpr c18
                          clear c18
                          have H' := Aside0.mk H
                          clear H
                          have p10 : 0 ≤ (x7_2 : Int) := of_decide_eq_true (by first | (with_reducible assumption) | assumption)
                          have q10 : x7_2 < (a0.size : Int) := of_decide_eq_true (by first | (with_reducible assumption) | assumption)
                          have hx10 := bt_at a0 x7_2
                          replace p10 := eq_true p10
                          replace q10 := eq_true q10
                          have p12 : 0 ≤ (x7_2 : Int) := of_decide_eq_true (by first | (with_reducible assumption) | assumption)
                          have q12 : x7_2 < (a0.size : Int) := of_decide_eq_true (by first | (with_reducible assumption) | assumption)
                          have hx12 := bt_at a0 x7_2
                          replace p12 := eq_true p12
                          replace q12 := eq_true q12
                          have p14 : 0 ≤ (x7_2 : Int) := of_decide_eq_true (by first | (with_reducible assumption) | assumption)
                          have q14 : x7_2 < (a0.size : Int) := of_decide_eq_true (by first | (with_reducible assumption) | assumption)
                          have hx14 := bt_at a0 x7_2
                          replace p14 := eq_true p14
                          replace q14 := eq_true q14
                          have p17 : 0 ≤ (x7_2 : Int) := of_decide_eq_true (by first | (with_reducible assumption) | assumption)
                          have q17 : x7_2 < (a0.size : Int) := of_decide_eq_true (by first | (with_reducible assumption) | assumption)
                          have hx17 := bt_at a0 x7_2
                          replace p17 := eq_true p17
                          replace q17 := eq_true q17
                          go_wp2
                          go_roundg k2
                          case measure => have := HJ3.out; have := HK2.out; omega
                          case rel => exact ⟨(true), (wrap64 (x7_2 + 1)), (by first | rfl | (simp; done) | (simp [*]; done)), (by first | rfl | (simp; done) | (simp [*]; done)), H', ⟨by have := HJ3.out; have := HK2.out; omega⟩, ⟨by repeat (first | (with_reducible first | exact HB.out | apply below_alloc | apply pw_below_drewN | apply below_drew1) | exact HB.out)⟩⟩
                        · rw [if_neg c18] at H
                          have c18b0 : ((bt a0 x7_2) == 32) = false := beq_eq_false_iff_ne.mpr c18
                          have c18b1 : ((bt a0 x7_2) != 32) = true := bne_iff_ne.mpr c18
                          by_cases c20 : (bt a0 x7_2) = 9
                          · rw [if_pos c20] at H
                            have c20b0 : ((bt a0 x7_2) == 9) = true := beq_iff_eq.mpr c20
                            have c20b1 : ((bt a0 x7_2) != 9) = false := bne_eq_false_iff_eq.mpr c20
                            clear c20
                            have H' := Aside0.mk H
                            clear H
                            have p10 : 0 ≤ (x7_2 : Int) := of_decide_eq_true (by first | (with_reducible assumption) | assumption)
                            have q10 : x7_2 < (a0.size : Int) := of_decide_eq_true (by first | (with_reducible assumption) | assumption)
                            have hx10 := bt_at a0 x7_2
                            replace p10 := eq_true p10
                            replace q10 := eq_true q10
                            have p12 : 0 ≤ (x7_2 : Int) := of_decide_eq_true (by first | (with_reducible assumption) | assumption)
                            have q12 : x7_2 < (a0.size : Int) := of_decide_eq_true (by first | (with_reducible assumption) | assumption)
                            have hx12 := bt_at a0 x7_2
                            replace p12 := eq_true p12
                            replace q12 := eq_true q12
                            have p14 : 0 ≤ (x7_2 : Int) := of_decide_eq_true (by first | (with_reducible assumption) | assumption)
                            have q14 : x7_2 < (a0.size : Int) := of_decide_eq_true (by first | (with_reducible assumption) | assumption)
                            have hx14 := bt_at a0 x7_2
                            replace p14 := eq_true p14
                            replace q14 := eq_true q14
                            have p17 : 0 ≤ (x7_2 : Int) := of_decide_eq_true (by first | (with_reducible assumption) | assumption)
                            have q17 : x7_2 < (a0.size : Int) := of_decide_eq_true (by first | (with_reducible assumption) | assumption)
                            have hx17 := bt_at a0 x7_2
                            replace p17 := eq_true p17
                            replace q17 := eq_true q17
                            have p19 : 0 ≤ (x7_2 : Int) := of_decide_eq_true (by first | (with_reducible assumption) | assumption)
                            have q19 : x7_2 < (a0.size : Int) := of_decide_eq_true (by first | (with_reducible assumption) | assumption)
                            have hx19 := bt_at a0 x7_2
                            replace p19 := eq_true p19
                            replace q19 := eq_true q19
                            go_wp2
                            go_roundg k2
                            case measure => have := HJ3.out; have := HK2.out; omega
                            case rel => exact ⟨(true), (wrap64 (x7_2 + 1)), (by first | rfl | (simp; done) | (simp [*]; done)), (by first | rfl | (simp; done) | (simp [*]; done)), H', ⟨by have := HJ3.out; have := HK2.out; omega⟩, ⟨by repeat (first | (with_reducible first | exact HB.out | apply below_alloc | apply pw_below_drewN | apply below_drew1) | exact HB.out)⟩⟩
                          · rw [if_neg c20] at H
                            have c20b0 : ((bt a0 x7_2) == 9) = false := beq_eq_false_iff_ne.mpr c20
                            have c20b1 : ((bt a0 x7_2) != 9) = true := bne_iff_ne.mpr c20
                            have H' := Aside0.mk H
                            clear H
                            have p10 : 0 ≤ (x7_2 : Int) := of_decide_eq_true (by first | (with_reducible assumption) | assumption)
                            have q10 : x7_2 < (a0.size : Int) := of_decide_eq_true (by first | (with_reducible assumption) | assumption)
                            have hx10 := bt_at a0 x7_2
                            replace p10 := eq_true p10
                            replace q10 := eq_true q10
                            have p12 : 0 ≤ (x7_2 : Int) := of_decide_eq_true (by first | (with_reducible assumption) | assumption)
                            have q12 : x7_2 < (a0.size : Int) := of_decide_eq_true (by first | (with_reducible assumption) | assumption)
                            have hx12 := bt_at a0 x7_2
                            replace p12 := eq_true p12
                            replace q12 := eq_true q12
                            have p14 : 0 ≤ (x7_2 : Int) := of_decide_eq_true (by first | (with_reducible assumption) | assumption)
                            have q14 : x7_2 < (a0.size : Int) := of_decide_eq_true (by first | (with_reducible assumption) | assumption)
                            have hx14 := bt_at a0 x7_2
                            replace p14 := eq_true p14
                            replace q14 := eq_true q14
                            have p17 : 0 ≤ (x7_2 : Int) := of_decide_eq_true (by first | (with_reducible assumption) | assumption)
                            have q17 : x7_2 < (a0.size : Int) := of_decide_eq_true (by first | (with_reducible assumption) | assumption)
                            have hx17 := bt_at a0 x7_2
                            replace p17 := eq_true p17
                            replace q17 := eq_true q17
                            have p19 : 0 ≤ (x7_2 : Int) := of_decide_eq_true (by first | (with_reducible assumption) | assumption)
                            have q19 : x7_2 < (a0.size : Int) := of_decide_eq_true (by first | (with_reducible assumption) | assumption)
                            have hx19 := bt_at a0 x7_2
                            replace p19 := eq_true p19
                            replace q19 := eq_true q19
                            have p21 : 0 ≤ (x7_2 : Int) := of_decide_eq_true (by first | (with_reducible assumption) | assumption)
                            have q21 : x7_2 < (a0.size : Int) := of_decide_eq_true (by first | (with_reducible assumption) | assumption)
                            have hx21 := bt_at a0 x7_2
                            replace p21 := eq_true p21
                            replace q21 := eq_true q21
                            go_wp2
                            go_roundg k2
                            case measure => have := HJ3.out; have := HK2.out; omega
                            case rel => exact ⟨(((bt a0 x7_2) == 10)), (wrap64 (x7_2 + 1)), (by first | rfl | (simp; done) | (simp [*]; done)), (by first | rfl | (simp; done) | (simp [*]; done)), H', ⟨by have := HJ3.out; have := HK2.out; omega⟩, ⟨by repeat (first | (with_reducible first | exact HB.out | apply below_alloc | apply pw_below_drewN | apply below_drew1) | exact HB.out)⟩⟩
                      · replace c16 := Bool.eq_false_iff.mpr c16
                        subst c16
                        have H1 : (incipitlaw09_LinkLabels.l0 k2 a0 a1 t236 false (wrap64 (x7_2 + 1))) = some r := by rw [if_neg (show ¬ (false = true) by decide)] at H; exact H
                        clear H
                        have H := H1
                        clear H1
                        have H' := Aside0.mk H
                        clear H
                        have p10 : 0 ≤ (x7_2 : Int) := of_decide_eq_true (by first | (with_reducible assumption) | assumption)
                        have q10 : x7_2 < (a0.size : Int) := of_decide_eq_true (by first | (with_reducible assumption) | assumption)
                        have hx10 := bt_at a0 x7_2
                        replace p10 := eq_true p10
                        replace q10 := eq_true q10
                        have p12 : 0 ≤ (x7_2 : Int) := of_decide_eq_true (by first | (with_reducible assumption) | assumption)
                        have q12 : x7_2 < (a0.size : Int) := of_decide_eq_true (by first | (with_reducible assumption) | assumption)
                        have hx12 := bt_at a0 x7_2
                        replace p12 := eq_true p12
                        replace q12 := eq_true q12
                        have p14 : 0 ≤ (x7_2 : Int) := of_decide_eq_true (by first | (with_reducible assumption) | assumption)
                        have q14 : x7_2 < (a0.size : Int) := of_decide_eq_true (by first | (with_reducible assumption) | assumption)
                        have hx14 := bt_at a0 x7_2
                        replace p14 := eq_true p14
                        replace q14 := eq_true q14
                        go_wp2
                        go_roundg k2
                        case measure => have := HJ3.out; have := HK2.out; omega
                        case rel => exact ⟨(false), (wrap64 (x7_2 + 1)), (by first | rfl | (simp; done) | (simp [*]; done)), (by first | rfl | (simp; done) | (simp [*]; done)), H', ⟨by have := HJ3.out; have := HK2.out; omega⟩, ⟨by repeat (first | (with_reducible first | exact HB.out | apply below_alloc | apply pw_below_drewN | apply below_drew1) | exact HB.out)⟩⟩
              · rw [if_neg c9] at H
                exact absurd H (by simp)
            · rw [if_neg c8] at H
              have c8b0 : decide (x7_2 < (a0.size : Int)) = false := decide_eq_false c8
              clear c8
              by_cases c22 : 1 + a0.size ≤ 9223372036854775807
              · rw [if_pos c22] at H
                have c22b0 := eq_true c22
                have c22b1 : decide (1 + a0.size ≤ 9223372036854775807) = true := decide_eq_true c22
                try have c22b2 : (9223372036854775807 < 1 + a0.size) = False := eq_false (Nat.not_lt.2 c22)
                by_cases c23 : ((⟨#[91]⟩ : ByteArray) ++ a0).size + 1 ≤ 9223372036854775807
                · rw [if_pos c23] at H
                  have c23b0 := eq_true c23
                  have c23b1 : decide (((⟨#[91]⟩ : ByteArray) ++ a0).size + 1 ≤ 9223372036854775807) = true := decide_eq_true c23
                  have c23b4 := c23
                  (try simp only [ByteArray.size_append, ByteArray.size_extract, Nat.min_self] at c23b4)
                  (try have c23b5 := Nat.not_lt.2 c23b4)
                  (try have c23b7 : ¬ 9223372036854775807 < 1 + a0.size + 1 := by have hh := c23; simp only [ByteArray.size_append] at hh; exact Nat.not_lt.2 hh)
                  try have c23b2 : (9223372036854775807 < ((⟨#[91]⟩ : ByteArray) ++ a0).size + 1) = False := eq_false (Nat.not_lt.2 c23)
                  by_cases c24 : (((⟨#[91]⟩ : ByteArray) ++ a0) ++ (⟨#[93]⟩ : ByteArray)).size + a1.size ≤ 9223372036854775807
                  · rw [if_pos c24] at H
                    have c24b0 := eq_true c24
                    have c24b1 : decide ((((⟨#[91]⟩ : ByteArray) ++ a0) ++ (⟨#[93]⟩ : ByteArray)).size + a1.size ≤ 9223372036854775807) = true := decide_eq_true c24
                    have c24b4 := c24
                    (try simp only [ByteArray.size_append, ByteArray.size_extract, Nat.min_self] at c24b4)
                    (try have c24b5 := Nat.not_lt.2 c24b4)
                    (try have c24b7 : ¬ 9223372036854775807 < 1 + a0.size + 1 + a1.size := by have hh := c24; simp only [ByteArray.size_append] at hh; exact Nat.not_lt.2 hh)
                    try have c24b2 : (9223372036854775807 < (((⟨#[91]⟩ : ByteArray) ++ a0) ++ (⟨#[93]⟩ : ByteArray)).size + a1.size) = False := eq_false (Nat.not_lt.2 c24)
                    replace H := Option.bind_eq_some_iff.mp H
                    obtain ⟨⟨t237, t238⟩, A250, H⟩ := H
                    replace H : (if ((⟨#[91]⟩ : ByteArray) ++ a0).size + 2 ≤ 9223372036854775807 then (if (((⟨#[91]⟩ : ByteArray) ++ a0) ++ (⟨#[91, 93]⟩ : ByteArray)).size + a1.size ≤ 9223372036854775807 then ((link_Label.f ((((⟨#[91]⟩ : ByteArray) ++ a0) ++ (⟨#[91, 93]⟩ : ByteArray)) ++ a1)).bind fun bt239 => (if 2 + a0.size ≤ 9223372036854775807 then (if ((⟨#[91, 120]⟩ : ByteArray) ++ a0).size + 3 ≤ 9223372036854775807 then (if (((⟨#[91, 120]⟩ : ByteArray) ++ a0) ++ (⟨#[92, 91, 93]⟩ : ByteArray)).size + a1.size ≤ 9223372036854775807 then ((link_Label.f ((((⟨#[91, 120]⟩ : ByteArray) ++ a0) ++ (⟨#[92, 91, 93]⟩ : ByteArray)) ++ a1)).bind fun bt241 => (if x6_2 = true then (if t236 = true then (if t238 = 0 then (if bt239.2 = 0 then (if bt241.2 = (wrap64 ((a0.size : Int) + 5)) then (some (bt241.1.toList != ([] : List UInt8))) else (some false)) else (some false)) else (some false)) else (some false)) else (if t236 = true then (if t237.toList = a0.toList then (if t238 = (wrap64 ((a0.size : Int) + 2)) then (if bt239.2 = 0 then (if ((⟨#[120]⟩ : ByteArray) ++ a0).size + 2 ≤ 9223372036854775807 then (if bt241.1.toList = (((⟨#[120]⟩ : ByteArray) ++ a0) ++ (⟨#[92, 91]⟩ : ByteArray)).toList then (some (bt241.2 == (wrap64 ((a0.size : Int) + 5)))) else (some false)) else (none)) else (some false)) else (some false)) else (some false)) else (some false)))) else (none)) else (none)) else (none))) else (none)) else (none)) = some r := H
                    have A25 := Aside0.mk A250
                    clear A250
                    by_cases c26 : ((⟨#[91]⟩ : ByteArray) ++ a0).size + 2 ≤ 9223372036854775807
                    · rw [if_pos c26] at H
                      have c26b0 := eq_true c26
                      have c26b1 : decide (((⟨#[91]⟩ : ByteArray) ++ a0).size + 2 ≤ 9223372036854775807) = true := decide_eq_true c26
                      have c26b4 := c26
                      (try simp only [ByteArray.size_append, ByteArray.size_extract, Nat.min_self] at c26b4)
                      (try have c26b5 := Nat.not_lt.2 c26b4)
                      (try have c26b7 : ¬ 9223372036854775807 < 1 + a0.size + 2 := by have hh := c26; simp only [ByteArray.size_append] at hh; exact Nat.not_lt.2 hh)
                      try have c26b2 : (9223372036854775807 < ((⟨#[91]⟩ : ByteArray) ++ a0).size + 2) = False := eq_false (Nat.not_lt.2 c26)
                      by_cases c27 : (((⟨#[91]⟩ : ByteArray) ++ a0) ++ (⟨#[91, 93]⟩ : ByteArray)).size + a1.size ≤ 9223372036854775807
                      · rw [if_pos c27] at H
                        have c27b0 := eq_true c27
                        have c27b1 : decide ((((⟨#[91]⟩ : ByteArray) ++ a0) ++ (⟨#[91, 93]⟩ : ByteArray)).size + a1.size ≤ 9223372036854775807) = true := decide_eq_true c27
                        have c27b4 := c27
                        (try simp only [ByteArray.size_append, ByteArray.size_extract, Nat.min_self] at c27b4)
                        (try have c27b5 := Nat.not_lt.2 c27b4)
                        (try have c27b7 : ¬ 9223372036854775807 < 1 + a0.size + 2 + a1.size := by have hh := c27; simp only [ByteArray.size_append] at hh; exact Nat.not_lt.2 hh)
                        try have c27b2 : (9223372036854775807 < (((⟨#[91]⟩ : ByteArray) ++ a0) ++ (⟨#[91, 93]⟩ : ByteArray)).size + a1.size) = False := eq_false (Nat.not_lt.2 c27)
                        replace H := Option.bind_eq_some_iff.mp H
                        obtain ⟨⟨t239, t240⟩, A280, H⟩ := H
                        replace H : (if 2 + a0.size ≤ 9223372036854775807 then (if ((⟨#[91, 120]⟩ : ByteArray) ++ a0).size + 3 ≤ 9223372036854775807 then (if (((⟨#[91, 120]⟩ : ByteArray) ++ a0) ++ (⟨#[92, 91, 93]⟩ : ByteArray)).size + a1.size ≤ 9223372036854775807 then ((link_Label.f ((((⟨#[91, 120]⟩ : ByteArray) ++ a0) ++ (⟨#[92, 91, 93]⟩ : ByteArray)) ++ a1)).bind fun bt241 => (if x6_2 = true then (if t236 = true then (if t238 = 0 then (if t240 = 0 then (if bt241.2 = (wrap64 ((a0.size : Int) + 5)) then (some (bt241.1.toList != ([] : List UInt8))) else (some false)) else (some false)) else (some false)) else (some false)) else (if t236 = true then (if t237.toList = a0.toList then (if t238 = (wrap64 ((a0.size : Int) + 2)) then (if t240 = 0 then (if ((⟨#[120]⟩ : ByteArray) ++ a0).size + 2 ≤ 9223372036854775807 then (if bt241.1.toList = (((⟨#[120]⟩ : ByteArray) ++ a0) ++ (⟨#[92, 91]⟩ : ByteArray)).toList then (some (bt241.2 == (wrap64 ((a0.size : Int) + 5)))) else (some false)) else (none)) else (some false)) else (some false)) else (some false)) else (some false)))) else (none)) else (none)) else (none)) = some r := H
                        have A28 := Aside0.mk A280
                        clear A280
                        by_cases c29 : 2 + a0.size ≤ 9223372036854775807
                        · rw [if_pos c29] at H
                          have c29b0 := eq_true c29
                          have c29b1 : decide (2 + a0.size ≤ 9223372036854775807) = true := decide_eq_true c29
                          try have c29b2 : (9223372036854775807 < 2 + a0.size) = False := eq_false (Nat.not_lt.2 c29)
                          by_cases c30 : ((⟨#[91, 120]⟩ : ByteArray) ++ a0).size + 3 ≤ 9223372036854775807
                          · rw [if_pos c30] at H
                            have c30b0 := eq_true c30
                            have c30b1 : decide (((⟨#[91, 120]⟩ : ByteArray) ++ a0).size + 3 ≤ 9223372036854775807) = true := decide_eq_true c30
                            have c30b4 := c30
                            (try simp only [ByteArray.size_append, ByteArray.size_extract, Nat.min_self] at c30b4)
                            (try have c30b5 := Nat.not_lt.2 c30b4)
                            (try have c30b7 : ¬ 9223372036854775807 < 2 + a0.size + 3 := by have hh := c30; simp only [ByteArray.size_append] at hh; exact Nat.not_lt.2 hh)
                            try have c30b2 : (9223372036854775807 < ((⟨#[91, 120]⟩ : ByteArray) ++ a0).size + 3) = False := eq_false (Nat.not_lt.2 c30)
                            by_cases c31 : (((⟨#[91, 120]⟩ : ByteArray) ++ a0) ++ (⟨#[92, 91, 93]⟩ : ByteArray)).size + a1.size ≤ 9223372036854775807
                            · rw [if_pos c31] at H
                              have c31b0 := eq_true c31
                              have c31b1 : decide ((((⟨#[91, 120]⟩ : ByteArray) ++ a0) ++ (⟨#[92, 91, 93]⟩ : ByteArray)).size + a1.size ≤ 9223372036854775807) = true := decide_eq_true c31
                              have c31b4 := c31
                              (try simp only [ByteArray.size_append, ByteArray.size_extract, Nat.min_self] at c31b4)
                              (try have c31b5 := Nat.not_lt.2 c31b4)
                              (try have c31b7 : ¬ 9223372036854775807 < 2 + a0.size + 3 + a1.size := by have hh := c31; simp only [ByteArray.size_append] at hh; exact Nat.not_lt.2 hh)
                              try have c31b2 : (9223372036854775807 < (((⟨#[91, 120]⟩ : ByteArray) ++ a0) ++ (⟨#[92, 91, 93]⟩ : ByteArray)).size + a1.size) = False := eq_false (Nat.not_lt.2 c31)
                              replace H := Option.bind_eq_some_iff.mp H
                              obtain ⟨⟨t241, t242⟩, A320, H⟩ := H
                              replace H : (if x6_2 = true then (if t236 = true then (if t238 = 0 then (if t240 = 0 then (if t242 = (wrap64 ((a0.size : Int) + 5)) then (some (t241.toList != ([] : List UInt8))) else (some false)) else (some false)) else (some false)) else (some false)) else (if t236 = true then (if t237.toList = a0.toList then (if t238 = (wrap64 ((a0.size : Int) + 2)) then (if t240 = 0 then (if ((⟨#[120]⟩ : ByteArray) ++ a0).size + 2 ≤ 9223372036854775807 then (if t241.toList = (((⟨#[120]⟩ : ByteArray) ++ a0) ++ (⟨#[92, 91]⟩ : ByteArray)).toList then (some (t242 == (wrap64 ((a0.size : Int) + 5)))) else (some false)) else (none)) else (some false)) else (some false)) else (some false)) else (some false))) = some r := H
                              have A32 := Aside0.mk A320
                              clear A320
                              by_cases c33 : x6_2 = true
                              · subst c33
                                have H1 : (if t236 = true then (if t238 = 0 then (if t240 = 0 then (if t242 = (wrap64 ((a0.size : Int) + 5)) then (some (t241.toList != ([] : List UInt8))) else (some false)) else (some false)) else (some false)) else (some false)) = some r := by rw [if_pos rfl] at H; exact H
                                clear H
                                have H := H1
                                clear H1
                                by_cases c34 : t236 = true
                                · subst c34
                                  have H1 : (if t238 = 0 then (if t240 = 0 then (if t242 = (wrap64 ((a0.size : Int) + 5)) then (some (t241.toList != ([] : List UInt8))) else (some false)) else (some false)) else (some false)) = some r := by rw [if_pos rfl] at H; exact H
                                  clear H
                                  have H := H1
                                  clear H1
                                  by_cases c35 : t238 = 0
                                  · rw [if_pos c35] at H
                                    have c35b0 : (t238 == 0) = true := beq_iff_eq.mpr c35
                                    have c35b1 : (t238 != 0) = false := bne_eq_false_iff_eq.mpr c35
                                    clear c35
                                    by_cases c36 : t240 = 0
                                    · rw [if_pos c36] at H
                                      have c36b0 : (t240 == 0) = true := beq_iff_eq.mpr c36
                                      have c36b1 : (t240 != 0) = false := bne_eq_false_iff_eq.mpr c36
                                      clear c36
                                      by_cases c37 : t242 = (wrap64 ((a0.size : Int) + 5))
                                      · rw [if_pos c37] at H
                                        have c37b0 : (t242 == (wrap64 ((a0.size : Int) + 5))) = true := beq_iff_eq.mpr c37
                                        (try have c37w : wrap64 ((a0.size : Int) + 5) = (a0.size : Int) + 5 := by first | exact szw c31b7 (by decide) (by decide) | exact szw c30b7 (by decide) (by decide) | exact szw c27b7 (by decide) (by decide) | exact szw c26b7 (by decide) (by decide) | exact szw c24b7 (by decide) (by decide) | exact szw c23b7 (by decide) (by decide))
                                        (try have c37w2 : (t242 == (a0.size : Int) + 5) = true := by have h_ := c37b0; rw [c37w] at h_; exact h_)
                                        (try have c37w1 : (t242 = (a0.size : Int) + 5) = True := eq_true (beq_iff_eq.1 c37w2))
                                        (try clear c37w)
                                        have c37b1 : (t242 != (wrap64 ((a0.size : Int) + 5))) = false := bne_eq_false_iff_eq.mpr c37
                                        clear c37
                                        obtain rfl := Option.some.inj H
                                        go_wp2_with (first | ((with_reducible refine gate_callee (f := 10) rfl ?_); refine goesL_ (some 72) rfl rfl Tryz.func10 (by kernel_rfl) rfl #[.string ((((⟨#[91]⟩ : ByteArray) ++ a0) ++ (⟨#[93]⟩ : ByteArray)) ++ a1)] rfl (by (try simp only [List.map_toArray, List.map_cons, List.map_nil]); first | done | rfl | (simp only [List.length_drop, List.length_take]; rfl)) ?_; (with_reducible refine (link_Label.calls ((((⟨#[91]⟩ : ByteArray) ++ a0) ++ (⟨#[93]⟩ : ByteArray)) ++ a1) t237 t238 _ A25.out).mono ?_); rintro e w38 ⟨rfl, hb⟩; refine ⟨_, rfl, ?_⟩; have n0_ := Aside0.mk (below_step (by repeat (first | (with_reducible first | exact HB.out | apply below_alloc | apply pw_below_drewN | apply below_drew1) | exact HB.out)) hb); clear HB; have HB := n0_; clear n0_; (try clear hb); (try clear hb2); (try clear hk); (try clear hi)) | ((with_reducible refine gate_callee (f := 10) rfl ?_); refine goesL_ (some 81) rfl rfl Tryz.func10 (by kernel_rfl) rfl #[.string ((((⟨#[91]⟩ : ByteArray) ++ a0) ++ (⟨#[91, 93]⟩ : ByteArray)) ++ a1)] rfl (by (try simp only [List.map_toArray, List.map_cons, List.map_nil]); first | done | rfl | (simp only [List.length_drop, List.length_take]; rfl)) ?_; (with_reducible refine (link_Label.calls ((((⟨#[91]⟩ : ByteArray) ++ a0) ++ (⟨#[91, 93]⟩ : ByteArray)) ++ a1) t239 t240 _ A28.out).mono ?_); rintro e w39 ⟨rfl, hb⟩; refine ⟨_, rfl, ?_⟩; have n0_ := Aside0.mk (below_step (by repeat (first | (with_reducible first | exact HB.out | apply below_alloc | apply pw_below_drewN | apply below_drew1) | exact HB.out)) hb); clear HB; have HB := n0_; clear n0_; (try clear hb); (try clear hb2); (try clear hk); (try clear hi)) | ((with_reducible refine gate_callee (f := 10) rfl ?_); refine goesL_ (some 90) rfl rfl Tryz.func10 (by kernel_rfl) rfl #[.string ((((⟨#[91, 120]⟩ : ByteArray) ++ a0) ++ (⟨#[92, 91, 93]⟩ : ByteArray)) ++ a1)] rfl (by (try simp only [List.map_toArray, List.map_cons, List.map_nil]); first | done | rfl | (simp only [List.length_drop, List.length_take]; rfl)) ?_; (with_reducible refine (link_Label.calls ((((⟨#[91, 120]⟩ : ByteArray) ++ a0) ++ (⟨#[92, 91, 93]⟩ : ByteArray)) ++ a1) t241 t242 _ A32.out).mono ?_); rintro e w40 ⟨rfl, hb⟩; refine ⟨_, rfl, ?_⟩; have n0_ := Aside0.mk (below_step (by repeat (first | (with_reducible first | exact HB.out | apply below_alloc | apply pw_below_drewN | apply below_drew1) | exact HB.out)) hb); clear HB; have HB := n0_; clear n0_; (try clear hb); (try clear hb2); (try clear hk); (try clear hi)))
                                        go_ret
                                        exact ⟨by first | rfl | exact retNe _ | (refine retEq ?_; first | exact szw c57b7 (by decide) (by decide) | exact szw c31b7 (by decide) (by decide) | exact szw c30b7 (by decide) (by decide) | exact szw c27b7 (by decide) (by decide) | exact szw c26b7 (by decide) (by decide) | exact szw c24b7 (by decide) (by decide) | exact szw c23b7 (by decide) (by decide)) | (simp [errW_none, errW_some] <;> rfl) | (simp [*, errW_none, errW_some] <;> rfl), by repeat (first | (with_reducible first | exact HB.out | apply below_alloc | apply pw_below_drewN | apply below_drew1) | exact HB.out)⟩
                                      · rw [if_neg c37] at H
                                        have c37b0 : (t242 == (wrap64 ((a0.size : Int) + 5))) = false := beq_eq_false_iff_ne.mpr c37
                                        (try have c37w : wrap64 ((a0.size : Int) + 5) = (a0.size : Int) + 5 := by first | exact szw c31b7 (by decide) (by decide) | exact szw c30b7 (by decide) (by decide) | exact szw c27b7 (by decide) (by decide) | exact szw c26b7 (by decide) (by decide) | exact szw c24b7 (by decide) (by decide) | exact szw c23b7 (by decide) (by decide))
                                        (try have c37w2 : (t242 == (a0.size : Int) + 5) = false := by have h_ := c37b0; rw [c37w] at h_; exact h_)
                                        (try have c37w1 : (t242 = (a0.size : Int) + 5) = False := eq_false (beq_eq_false_iff_ne.1 c37w2))
                                        (try clear c37w)
                                        have c37b1 : (t242 != (wrap64 ((a0.size : Int) + 5))) = true := bne_iff_ne.mpr c37
                                        obtain rfl := Option.some.inj H
                                        go_wp2_with (first | ((with_reducible refine gate_callee (f := 10) rfl ?_); refine goesL_ (some 72) rfl rfl Tryz.func10 (by kernel_rfl) rfl #[.string ((((⟨#[91]⟩ : ByteArray) ++ a0) ++ (⟨#[93]⟩ : ByteArray)) ++ a1)] rfl (by (try simp only [List.map_toArray, List.map_cons, List.map_nil]); first | done | rfl | (simp only [List.length_drop, List.length_take]; rfl)) ?_; (with_reducible refine (link_Label.calls ((((⟨#[91]⟩ : ByteArray) ++ a0) ++ (⟨#[93]⟩ : ByteArray)) ++ a1) t237 t238 _ A25.out).mono ?_); rintro e w41 ⟨rfl, hb⟩; refine ⟨_, rfl, ?_⟩; have n0_ := Aside0.mk (below_step (by repeat (first | (with_reducible first | exact HB.out | apply below_alloc | apply pw_below_drewN | apply below_drew1) | exact HB.out)) hb); clear HB; have HB := n0_; clear n0_; (try clear hb); (try clear hb2); (try clear hk); (try clear hi)) | ((with_reducible refine gate_callee (f := 10) rfl ?_); refine goesL_ (some 81) rfl rfl Tryz.func10 (by kernel_rfl) rfl #[.string ((((⟨#[91]⟩ : ByteArray) ++ a0) ++ (⟨#[91, 93]⟩ : ByteArray)) ++ a1)] rfl (by (try simp only [List.map_toArray, List.map_cons, List.map_nil]); first | done | rfl | (simp only [List.length_drop, List.length_take]; rfl)) ?_; (with_reducible refine (link_Label.calls ((((⟨#[91]⟩ : ByteArray) ++ a0) ++ (⟨#[91, 93]⟩ : ByteArray)) ++ a1) t239 t240 _ A28.out).mono ?_); rintro e w42 ⟨rfl, hb⟩; refine ⟨_, rfl, ?_⟩; have n0_ := Aside0.mk (below_step (by repeat (first | (with_reducible first | exact HB.out | apply below_alloc | apply pw_below_drewN | apply below_drew1) | exact HB.out)) hb); clear HB; have HB := n0_; clear n0_; (try clear hb); (try clear hb2); (try clear hk); (try clear hi)) | ((with_reducible refine gate_callee (f := 10) rfl ?_); refine goesL_ (some 90) rfl rfl Tryz.func10 (by kernel_rfl) rfl #[.string ((((⟨#[91, 120]⟩ : ByteArray) ++ a0) ++ (⟨#[92, 91, 93]⟩ : ByteArray)) ++ a1)] rfl (by (try simp only [List.map_toArray, List.map_cons, List.map_nil]); first | done | rfl | (simp only [List.length_drop, List.length_take]; rfl)) ?_; (with_reducible refine (link_Label.calls ((((⟨#[91, 120]⟩ : ByteArray) ++ a0) ++ (⟨#[92, 91, 93]⟩ : ByteArray)) ++ a1) t241 t242 _ A32.out).mono ?_); rintro e w43 ⟨rfl, hb⟩; refine ⟨_, rfl, ?_⟩; have n0_ := Aside0.mk (below_step (by repeat (first | (with_reducible first | exact HB.out | apply below_alloc | apply pw_below_drewN | apply below_drew1) | exact HB.out)) hb); clear HB; have HB := n0_; clear n0_; (try clear hb); (try clear hb2); (try clear hk); (try clear hi)))
                                        go_ret
                                        exact ⟨by first | rfl | exact retNe _ | (refine retEq ?_; first | exact szw c57b7 (by decide) (by decide) | exact szw c31b7 (by decide) (by decide) | exact szw c30b7 (by decide) (by decide) | exact szw c27b7 (by decide) (by decide) | exact szw c26b7 (by decide) (by decide) | exact szw c24b7 (by decide) (by decide) | exact szw c23b7 (by decide) (by decide)) | (simp [errW_none, errW_some] <;> rfl) | (simp [*, errW_none, errW_some] <;> rfl), by repeat (first | (with_reducible first | exact HB.out | apply below_alloc | apply pw_below_drewN | apply below_drew1) | exact HB.out)⟩
                                    · rw [if_neg c36] at H
                                      have c36b0 : (t240 == 0) = false := beq_eq_false_iff_ne.mpr c36
                                      have c36b1 : (t240 != 0) = true := bne_iff_ne.mpr c36
                                      obtain rfl := Option.some.inj H
                                      go_wp2_with (first | ((with_reducible refine gate_callee (f := 10) rfl ?_); refine goesL_ (some 72) rfl rfl Tryz.func10 (by kernel_rfl) rfl #[.string ((((⟨#[91]⟩ : ByteArray) ++ a0) ++ (⟨#[93]⟩ : ByteArray)) ++ a1)] rfl (by (try simp only [List.map_toArray, List.map_cons, List.map_nil]); first | done | rfl | (simp only [List.length_drop, List.length_take]; rfl)) ?_; (with_reducible refine (link_Label.calls ((((⟨#[91]⟩ : ByteArray) ++ a0) ++ (⟨#[93]⟩ : ByteArray)) ++ a1) t237 t238 _ A25.out).mono ?_); rintro e w44 ⟨rfl, hb⟩; refine ⟨_, rfl, ?_⟩; have n0_ := Aside0.mk (below_step (by repeat (first | (with_reducible first | exact HB.out | apply below_alloc | apply pw_below_drewN | apply below_drew1) | exact HB.out)) hb); clear HB; have HB := n0_; clear n0_; (try clear hb); (try clear hb2); (try clear hk); (try clear hi)) | ((with_reducible refine gate_callee (f := 10) rfl ?_); refine goesL_ (some 81) rfl rfl Tryz.func10 (by kernel_rfl) rfl #[.string ((((⟨#[91]⟩ : ByteArray) ++ a0) ++ (⟨#[91, 93]⟩ : ByteArray)) ++ a1)] rfl (by (try simp only [List.map_toArray, List.map_cons, List.map_nil]); first | done | rfl | (simp only [List.length_drop, List.length_take]; rfl)) ?_; (with_reducible refine (link_Label.calls ((((⟨#[91]⟩ : ByteArray) ++ a0) ++ (⟨#[91, 93]⟩ : ByteArray)) ++ a1) t239 t240 _ A28.out).mono ?_); rintro e w45 ⟨rfl, hb⟩; refine ⟨_, rfl, ?_⟩; have n0_ := Aside0.mk (below_step (by repeat (first | (with_reducible first | exact HB.out | apply below_alloc | apply pw_below_drewN | apply below_drew1) | exact HB.out)) hb); clear HB; have HB := n0_; clear n0_; (try clear hb); (try clear hb2); (try clear hk); (try clear hi)) | ((with_reducible refine gate_callee (f := 10) rfl ?_); refine goesL_ (some 90) rfl rfl Tryz.func10 (by kernel_rfl) rfl #[.string ((((⟨#[91, 120]⟩ : ByteArray) ++ a0) ++ (⟨#[92, 91, 93]⟩ : ByteArray)) ++ a1)] rfl (by (try simp only [List.map_toArray, List.map_cons, List.map_nil]); first | done | rfl | (simp only [List.length_drop, List.length_take]; rfl)) ?_; (with_reducible refine (link_Label.calls ((((⟨#[91, 120]⟩ : ByteArray) ++ a0) ++ (⟨#[92, 91, 93]⟩ : ByteArray)) ++ a1) t241 t242 _ A32.out).mono ?_); rintro e w46 ⟨rfl, hb⟩; refine ⟨_, rfl, ?_⟩; have n0_ := Aside0.mk (below_step (by repeat (first | (with_reducible first | exact HB.out | apply below_alloc | apply pw_below_drewN | apply below_drew1) | exact HB.out)) hb); clear HB; have HB := n0_; clear n0_; (try clear hb); (try clear hb2); (try clear hk); (try clear hi)))
                                      go_ret
                                      exact ⟨by first | rfl | exact retNe _ | (refine retEq ?_; first | exact szw c57b7 (by decide) (by decide) | exact szw c31b7 (by decide) (by decide) | exact szw c30b7 (by decide) (by decide) | exact szw c27b7 (by decide) (by decide) | exact szw c26b7 (by decide) (by decide) | exact szw c24b7 (by decide) (by decide) | exact szw c23b7 (by decide) (by decide)) | (simp [errW_none, errW_some] <;> rfl) | (simp [*, errW_none, errW_some] <;> rfl), by repeat (first | (with_reducible first | exact HB.out | apply below_alloc | apply pw_below_drewN | apply below_drew1) | exact HB.out)⟩
                                  · rw [if_neg c35] at H
                                    have c35b0 : (t238 == 0) = false := beq_eq_false_iff_ne.mpr c35
                                    have c35b1 : (t238 != 0) = true := bne_iff_ne.mpr c35
                                    obtain rfl := Option.some.inj H
                                    go_wp2_with (first | ((with_reducible refine gate_callee (f := 10) rfl ?_); refine goesL_ (some 72) rfl rfl Tryz.func10 (by kernel_rfl) rfl #[.string ((((⟨#[91]⟩ : ByteArray) ++ a0) ++ (⟨#[93]⟩ : ByteArray)) ++ a1)] rfl (by (try simp only [List.map_toArray, List.map_cons, List.map_nil]); first | done | rfl | (simp only [List.length_drop, List.length_take]; rfl)) ?_; (with_reducible refine (link_Label.calls ((((⟨#[91]⟩ : ByteArray) ++ a0) ++ (⟨#[93]⟩ : ByteArray)) ++ a1) t237 t238 _ A25.out).mono ?_); rintro e w47 ⟨rfl, hb⟩; refine ⟨_, rfl, ?_⟩; have n0_ := Aside0.mk (below_step (by repeat (first | (with_reducible first | exact HB.out | apply below_alloc | apply pw_below_drewN | apply below_drew1) | exact HB.out)) hb); clear HB; have HB := n0_; clear n0_; (try clear hb); (try clear hb2); (try clear hk); (try clear hi)) | ((with_reducible refine gate_callee (f := 10) rfl ?_); refine goesL_ (some 81) rfl rfl Tryz.func10 (by kernel_rfl) rfl #[.string ((((⟨#[91]⟩ : ByteArray) ++ a0) ++ (⟨#[91, 93]⟩ : ByteArray)) ++ a1)] rfl (by (try simp only [List.map_toArray, List.map_cons, List.map_nil]); first | done | rfl | (simp only [List.length_drop, List.length_take]; rfl)) ?_; (with_reducible refine (link_Label.calls ((((⟨#[91]⟩ : ByteArray) ++ a0) ++ (⟨#[91, 93]⟩ : ByteArray)) ++ a1) t239 t240 _ A28.out).mono ?_); rintro e w48 ⟨rfl, hb⟩; refine ⟨_, rfl, ?_⟩; have n0_ := Aside0.mk (below_step (by repeat (first | (with_reducible first | exact HB.out | apply below_alloc | apply pw_below_drewN | apply below_drew1) | exact HB.out)) hb); clear HB; have HB := n0_; clear n0_; (try clear hb); (try clear hb2); (try clear hk); (try clear hi)) | ((with_reducible refine gate_callee (f := 10) rfl ?_); refine goesL_ (some 90) rfl rfl Tryz.func10 (by kernel_rfl) rfl #[.string ((((⟨#[91, 120]⟩ : ByteArray) ++ a0) ++ (⟨#[92, 91, 93]⟩ : ByteArray)) ++ a1)] rfl (by (try simp only [List.map_toArray, List.map_cons, List.map_nil]); first | done | rfl | (simp only [List.length_drop, List.length_take]; rfl)) ?_; (with_reducible refine (link_Label.calls ((((⟨#[91, 120]⟩ : ByteArray) ++ a0) ++ (⟨#[92, 91, 93]⟩ : ByteArray)) ++ a1) t241 t242 _ A32.out).mono ?_); rintro e w49 ⟨rfl, hb⟩; refine ⟨_, rfl, ?_⟩; have n0_ := Aside0.mk (below_step (by repeat (first | (with_reducible first | exact HB.out | apply below_alloc | apply pw_below_drewN | apply below_drew1) | exact HB.out)) hb); clear HB; have HB := n0_; clear n0_; (try clear hb); (try clear hb2); (try clear hk); (try clear hi)))
                                    go_ret
                                    exact ⟨by first | rfl | exact retNe _ | (refine retEq ?_; first | exact szw c57b7 (by decide) (by decide) | exact szw c31b7 (by decide) (by decide) | exact szw c30b7 (by decide) (by decide) | exact szw c27b7 (by decide) (by decide) | exact szw c26b7 (by decide) (by decide) | exact szw c24b7 (by decide) (by decide) | exact szw c23b7 (by decide) (by decide)) | (simp [errW_none, errW_some] <;> rfl) | (simp [*, errW_none, errW_some] <;> rfl), by repeat (first | (with_reducible first | exact HB.out | apply below_alloc | apply pw_below_drewN | apply below_drew1) | exact HB.out)⟩
                                · replace c34 := Bool.eq_false_iff.mpr c34
                                  subst c34
                                  have H1 : (some false) = some r := by rw [if_neg (show ¬ (false = true) by decide)] at H; exact H
                                  clear H
                                  have H := H1
                                  clear H1
                                  obtain rfl := Option.some.inj H
                                  go_wp2_with (first | ((with_reducible refine gate_callee (f := 10) rfl ?_); refine goesL_ (some 72) rfl rfl Tryz.func10 (by kernel_rfl) rfl #[.string ((((⟨#[91]⟩ : ByteArray) ++ a0) ++ (⟨#[93]⟩ : ByteArray)) ++ a1)] rfl (by (try simp only [List.map_toArray, List.map_cons, List.map_nil]); first | done | rfl | (simp only [List.length_drop, List.length_take]; rfl)) ?_; (with_reducible refine (link_Label.calls ((((⟨#[91]⟩ : ByteArray) ++ a0) ++ (⟨#[93]⟩ : ByteArray)) ++ a1) t237 t238 _ A25.out).mono ?_); rintro e w50 ⟨rfl, hb⟩; refine ⟨_, rfl, ?_⟩; have n0_ := Aside0.mk (below_step (by repeat (first | (with_reducible first | exact HB.out | apply below_alloc | apply pw_below_drewN | apply below_drew1) | exact HB.out)) hb); clear HB; have HB := n0_; clear n0_; (try clear hb); (try clear hb2); (try clear hk); (try clear hi)) | ((with_reducible refine gate_callee (f := 10) rfl ?_); refine goesL_ (some 81) rfl rfl Tryz.func10 (by kernel_rfl) rfl #[.string ((((⟨#[91]⟩ : ByteArray) ++ a0) ++ (⟨#[91, 93]⟩ : ByteArray)) ++ a1)] rfl (by (try simp only [List.map_toArray, List.map_cons, List.map_nil]); first | done | rfl | (simp only [List.length_drop, List.length_take]; rfl)) ?_; (with_reducible refine (link_Label.calls ((((⟨#[91]⟩ : ByteArray) ++ a0) ++ (⟨#[91, 93]⟩ : ByteArray)) ++ a1) t239 t240 _ A28.out).mono ?_); rintro e w51 ⟨rfl, hb⟩; refine ⟨_, rfl, ?_⟩; have n0_ := Aside0.mk (below_step (by repeat (first | (with_reducible first | exact HB.out | apply below_alloc | apply pw_below_drewN | apply below_drew1) | exact HB.out)) hb); clear HB; have HB := n0_; clear n0_; (try clear hb); (try clear hb2); (try clear hk); (try clear hi)) | ((with_reducible refine gate_callee (f := 10) rfl ?_); refine goesL_ (some 90) rfl rfl Tryz.func10 (by kernel_rfl) rfl #[.string ((((⟨#[91, 120]⟩ : ByteArray) ++ a0) ++ (⟨#[92, 91, 93]⟩ : ByteArray)) ++ a1)] rfl (by (try simp only [List.map_toArray, List.map_cons, List.map_nil]); first | done | rfl | (simp only [List.length_drop, List.length_take]; rfl)) ?_; (with_reducible refine (link_Label.calls ((((⟨#[91, 120]⟩ : ByteArray) ++ a0) ++ (⟨#[92, 91, 93]⟩ : ByteArray)) ++ a1) t241 t242 _ A32.out).mono ?_); rintro e w52 ⟨rfl, hb⟩; refine ⟨_, rfl, ?_⟩; have n0_ := Aside0.mk (below_step (by repeat (first | (with_reducible first | exact HB.out | apply below_alloc | apply pw_below_drewN | apply below_drew1) | exact HB.out)) hb); clear HB; have HB := n0_; clear n0_; (try clear hb); (try clear hb2); (try clear hk); (try clear hi)))
                                  go_ret
                                  exact ⟨by first | rfl | exact retNe _ | (refine retEq ?_; first | exact szw c57b7 (by decide) (by decide) | exact szw c31b7 (by decide) (by decide) | exact szw c30b7 (by decide) (by decide) | exact szw c27b7 (by decide) (by decide) | exact szw c26b7 (by decide) (by decide) | exact szw c24b7 (by decide) (by decide) | exact szw c23b7 (by decide) (by decide)) | (simp [errW_none, errW_some] <;> rfl) | (simp [*, errW_none, errW_some] <;> rfl), by repeat (first | (with_reducible first | exact HB.out | apply below_alloc | apply pw_below_drewN | apply below_drew1) | exact HB.out)⟩
                              · replace c33 := Bool.eq_false_iff.mpr c33
                                subst c33
                                have H1 : (if t236 = true then (if t237.toList = a0.toList then (if t238 = (wrap64 ((a0.size : Int) + 2)) then (if t240 = 0 then (if ((⟨#[120]⟩ : ByteArray) ++ a0).size + 2 ≤ 9223372036854775807 then (if t241.toList = (((⟨#[120]⟩ : ByteArray) ++ a0) ++ (⟨#[92, 91]⟩ : ByteArray)).toList then (some (t242 == (wrap64 ((a0.size : Int) + 5)))) else (some false)) else (none)) else (some false)) else (some false)) else (some false)) else (some false)) = some r := by rw [if_neg (show ¬ (false = true) by decide)] at H; exact H
                                clear H
                                have H := H1
                                clear H1
                                by_cases c53 : t236 = true
                                · subst c53
                                  have H1 : (if t237.toList = a0.toList then (if t238 = (wrap64 ((a0.size : Int) + 2)) then (if t240 = 0 then (if ((⟨#[120]⟩ : ByteArray) ++ a0).size + 2 ≤ 9223372036854775807 then (if t241.toList = (((⟨#[120]⟩ : ByteArray) ++ a0) ++ (⟨#[92, 91]⟩ : ByteArray)).toList then (some (t242 == (wrap64 ((a0.size : Int) + 5)))) else (some false)) else (none)) else (some false)) else (some false)) else (some false)) = some r := by rw [if_pos rfl] at H; exact H
                                  clear H
                                  have H := H1
                                  clear H1
                                  by_cases c54 : t237.toList = a0.toList
                                  · rw [if_pos c54] at H
                                    have c54b0 : (t237.toList == a0.toList) = true := beq_iff_eq.mpr c54
                                    have c54b1 : (t237.toList != a0.toList) = false := bne_eq_false_iff_eq.mpr c54
                                    clear c54
                                    by_cases c55 : t238 = (wrap64 ((a0.size : Int) + 2))
                                    · rw [if_pos c55] at H
                                      have c55b0 : (t238 == (wrap64 ((a0.size : Int) + 2))) = true := beq_iff_eq.mpr c55
                                      (try have c55w : wrap64 ((a0.size : Int) + 2) = (a0.size : Int) + 2 := by first | exact szw c31b7 (by decide) (by decide) | exact szw c30b7 (by decide) (by decide) | exact szw c27b7 (by decide) (by decide) | exact szw c26b7 (by decide) (by decide) | exact szw c24b7 (by decide) (by decide) | exact szw c23b7 (by decide) (by decide))
                                      (try have c55w2 : (t238 == (a0.size : Int) + 2) = true := by have h_ := c55b0; rw [c55w] at h_; exact h_)
                                      (try have c55w1 : (t238 = (a0.size : Int) + 2) = True := eq_true (beq_iff_eq.1 c55w2))
                                      (try clear c55w)
                                      have c55b1 : (t238 != (wrap64 ((a0.size : Int) + 2))) = false := bne_eq_false_iff_eq.mpr c55
                                      clear c55
                                      by_cases c56 : t240 = 0
                                      · rw [if_pos c56] at H
                                        have c56b0 : (t240 == 0) = true := beq_iff_eq.mpr c56
                                        have c56b1 : (t240 != 0) = false := bne_eq_false_iff_eq.mpr c56
                                        clear c56
                                        by_cases c57 : ((⟨#[120]⟩ : ByteArray) ++ a0).size + 2 ≤ 9223372036854775807
                                        · rw [if_pos c57] at H
                                          have c57b0 := eq_true c57
                                          have c57b1 : decide (((⟨#[120]⟩ : ByteArray) ++ a0).size + 2 ≤ 9223372036854775807) = true := decide_eq_true c57
                                          have c57b4 := c57
                                          (try simp only [ByteArray.size_append, ByteArray.size_extract, Nat.min_self] at c57b4)
                                          (try have c57b5 := Nat.not_lt.2 c57b4)
                                          (try have c57b7 : ¬ 9223372036854775807 < 1 + a0.size + 2 := by have hh := c57; simp only [ByteArray.size_append] at hh; exact Nat.not_lt.2 hh)
                                          try have c57b2 : (9223372036854775807 < ((⟨#[120]⟩ : ByteArray) ++ a0).size + 2) = False := eq_false (Nat.not_lt.2 c57)
                                          by_cases c58 : t241.toList = (((⟨#[120]⟩ : ByteArray) ++ a0) ++ (⟨#[92, 91]⟩ : ByteArray)).toList
                                          · rw [if_pos c58] at H
                                            have c58b0 : (t241.toList == (((⟨#[120]⟩ : ByteArray) ++ a0) ++ (⟨#[92, 91]⟩ : ByteArray)).toList) = true := beq_iff_eq.mpr c58
                                            have c58b1 : (t241.toList != (((⟨#[120]⟩ : ByteArray) ++ a0) ++ (⟨#[92, 91]⟩ : ByteArray)).toList) = false := bne_eq_false_iff_eq.mpr c58
                                            clear c58
                                            obtain rfl := Option.some.inj H
                                            go_wp2_with (first | ((with_reducible refine gate_callee (f := 10) rfl ?_); refine goesL_ (some 72) rfl rfl Tryz.func10 (by kernel_rfl) rfl #[.string ((((⟨#[91]⟩ : ByteArray) ++ a0) ++ (⟨#[93]⟩ : ByteArray)) ++ a1)] rfl (by (try simp only [List.map_toArray, List.map_cons, List.map_nil]); first | done | rfl | (simp only [List.length_drop, List.length_take]; rfl)) ?_; (with_reducible refine (link_Label.calls ((((⟨#[91]⟩ : ByteArray) ++ a0) ++ (⟨#[93]⟩ : ByteArray)) ++ a1) t237 t238 _ A25.out).mono ?_); rintro e w59 ⟨rfl, hb⟩; refine ⟨_, rfl, ?_⟩; have n0_ := Aside0.mk (below_step (by repeat (first | (with_reducible first | exact HB.out | apply below_alloc | apply pw_below_drewN | apply below_drew1) | exact HB.out)) hb); clear HB; have HB := n0_; clear n0_; (try clear hb); (try clear hb2); (try clear hk); (try clear hi)) | ((with_reducible refine gate_callee (f := 10) rfl ?_); refine goesL_ (some 81) rfl rfl Tryz.func10 (by kernel_rfl) rfl #[.string ((((⟨#[91]⟩ : ByteArray) ++ a0) ++ (⟨#[91, 93]⟩ : ByteArray)) ++ a1)] rfl (by (try simp only [List.map_toArray, List.map_cons, List.map_nil]); first | done | rfl | (simp only [List.length_drop, List.length_take]; rfl)) ?_; (with_reducible refine (link_Label.calls ((((⟨#[91]⟩ : ByteArray) ++ a0) ++ (⟨#[91, 93]⟩ : ByteArray)) ++ a1) t239 t240 _ A28.out).mono ?_); rintro e w60 ⟨rfl, hb⟩; refine ⟨_, rfl, ?_⟩; have n0_ := Aside0.mk (below_step (by repeat (first | (with_reducible first | exact HB.out | apply below_alloc | apply pw_below_drewN | apply below_drew1) | exact HB.out)) hb); clear HB; have HB := n0_; clear n0_; (try clear hb); (try clear hb2); (try clear hk); (try clear hi)) | ((with_reducible refine gate_callee (f := 10) rfl ?_); refine goesL_ (some 90) rfl rfl Tryz.func10 (by kernel_rfl) rfl #[.string ((((⟨#[91, 120]⟩ : ByteArray) ++ a0) ++ (⟨#[92, 91, 93]⟩ : ByteArray)) ++ a1)] rfl (by (try simp only [List.map_toArray, List.map_cons, List.map_nil]); first | done | rfl | (simp only [List.length_drop, List.length_take]; rfl)) ?_; (with_reducible refine (link_Label.calls ((((⟨#[91, 120]⟩ : ByteArray) ++ a0) ++ (⟨#[92, 91, 93]⟩ : ByteArray)) ++ a1) t241 t242 _ A32.out).mono ?_); rintro e w61 ⟨rfl, hb⟩; refine ⟨_, rfl, ?_⟩; have n0_ := Aside0.mk (below_step (by repeat (first | (with_reducible first | exact HB.out | apply below_alloc | apply pw_below_drewN | apply below_drew1) | exact HB.out)) hb); clear HB; have HB := n0_; clear n0_; (try clear hb); (try clear hb2); (try clear hk); (try clear hi)))
                                            go_ret
                                            exact ⟨by first | rfl | exact retNe _ | (refine retEq ?_; first | exact szw c57b7 (by decide) (by decide) | exact szw c31b7 (by decide) (by decide) | exact szw c30b7 (by decide) (by decide) | exact szw c27b7 (by decide) (by decide) | exact szw c26b7 (by decide) (by decide) | exact szw c24b7 (by decide) (by decide) | exact szw c23b7 (by decide) (by decide)) | (simp [errW_none, errW_some] <;> rfl) | (simp [*, errW_none, errW_some] <;> rfl), by repeat (first | (with_reducible first | exact HB.out | apply below_alloc | apply pw_below_drewN | apply below_drew1) | exact HB.out)⟩
                                          · rw [if_neg c58] at H
                                            have c58b0 : (t241.toList == (((⟨#[120]⟩ : ByteArray) ++ a0) ++ (⟨#[92, 91]⟩ : ByteArray)).toList) = false := beq_eq_false_iff_ne.mpr c58
                                            have c58b1 : (t241.toList != (((⟨#[120]⟩ : ByteArray) ++ a0) ++ (⟨#[92, 91]⟩ : ByteArray)).toList) = true := bne_iff_ne.mpr c58
                                            obtain rfl := Option.some.inj H
                                            go_wp2_with (first | ((with_reducible refine gate_callee (f := 10) rfl ?_); refine goesL_ (some 72) rfl rfl Tryz.func10 (by kernel_rfl) rfl #[.string ((((⟨#[91]⟩ : ByteArray) ++ a0) ++ (⟨#[93]⟩ : ByteArray)) ++ a1)] rfl (by (try simp only [List.map_toArray, List.map_cons, List.map_nil]); first | done | rfl | (simp only [List.length_drop, List.length_take]; rfl)) ?_; (with_reducible refine (link_Label.calls ((((⟨#[91]⟩ : ByteArray) ++ a0) ++ (⟨#[93]⟩ : ByteArray)) ++ a1) t237 t238 _ A25.out).mono ?_); rintro e w62 ⟨rfl, hb⟩; refine ⟨_, rfl, ?_⟩; have n0_ := Aside0.mk (below_step (by repeat (first | (with_reducible first | exact HB.out | apply below_alloc | apply pw_below_drewN | apply below_drew1) | exact HB.out)) hb); clear HB; have HB := n0_; clear n0_; (try clear hb); (try clear hb2); (try clear hk); (try clear hi)) | ((with_reducible refine gate_callee (f := 10) rfl ?_); refine goesL_ (some 81) rfl rfl Tryz.func10 (by kernel_rfl) rfl #[.string ((((⟨#[91]⟩ : ByteArray) ++ a0) ++ (⟨#[91, 93]⟩ : ByteArray)) ++ a1)] rfl (by (try simp only [List.map_toArray, List.map_cons, List.map_nil]); first | done | rfl | (simp only [List.length_drop, List.length_take]; rfl)) ?_; (with_reducible refine (link_Label.calls ((((⟨#[91]⟩ : ByteArray) ++ a0) ++ (⟨#[91, 93]⟩ : ByteArray)) ++ a1) t239 t240 _ A28.out).mono ?_); rintro e w63 ⟨rfl, hb⟩; refine ⟨_, rfl, ?_⟩; have n0_ := Aside0.mk (below_step (by repeat (first | (with_reducible first | exact HB.out | apply below_alloc | apply pw_below_drewN | apply below_drew1) | exact HB.out)) hb); clear HB; have HB := n0_; clear n0_; (try clear hb); (try clear hb2); (try clear hk); (try clear hi)) | ((with_reducible refine gate_callee (f := 10) rfl ?_); refine goesL_ (some 90) rfl rfl Tryz.func10 (by kernel_rfl) rfl #[.string ((((⟨#[91, 120]⟩ : ByteArray) ++ a0) ++ (⟨#[92, 91, 93]⟩ : ByteArray)) ++ a1)] rfl (by (try simp only [List.map_toArray, List.map_cons, List.map_nil]); first | done | rfl | (simp only [List.length_drop, List.length_take]; rfl)) ?_; (with_reducible refine (link_Label.calls ((((⟨#[91, 120]⟩ : ByteArray) ++ a0) ++ (⟨#[92, 91, 93]⟩ : ByteArray)) ++ a1) t241 t242 _ A32.out).mono ?_); rintro e w64 ⟨rfl, hb⟩; refine ⟨_, rfl, ?_⟩; have n0_ := Aside0.mk (below_step (by repeat (first | (with_reducible first | exact HB.out | apply below_alloc | apply pw_below_drewN | apply below_drew1) | exact HB.out)) hb); clear HB; have HB := n0_; clear n0_; (try clear hb); (try clear hb2); (try clear hk); (try clear hi)))
                                            go_ret
                                            exact ⟨by first | rfl | exact retNe _ | (refine retEq ?_; first | exact szw c57b7 (by decide) (by decide) | exact szw c31b7 (by decide) (by decide) | exact szw c30b7 (by decide) (by decide) | exact szw c27b7 (by decide) (by decide) | exact szw c26b7 (by decide) (by decide) | exact szw c24b7 (by decide) (by decide) | exact szw c23b7 (by decide) (by decide)) | (simp [errW_none, errW_some] <;> rfl) | (simp [*, errW_none, errW_some] <;> rfl), by repeat (first | (with_reducible first | exact HB.out | apply below_alloc | apply pw_below_drewN | apply below_drew1) | exact HB.out)⟩
                                        · rw [if_neg c57] at H
                                          exact absurd H (by simp)
                                      · rw [if_neg c56] at H
                                        have c56b0 : (t240 == 0) = false := beq_eq_false_iff_ne.mpr c56
                                        have c56b1 : (t240 != 0) = true := bne_iff_ne.mpr c56
                                        obtain rfl := Option.some.inj H
                                        go_wp2_with (first | ((with_reducible refine gate_callee (f := 10) rfl ?_); refine goesL_ (some 72) rfl rfl Tryz.func10 (by kernel_rfl) rfl #[.string ((((⟨#[91]⟩ : ByteArray) ++ a0) ++ (⟨#[93]⟩ : ByteArray)) ++ a1)] rfl (by (try simp only [List.map_toArray, List.map_cons, List.map_nil]); first | done | rfl | (simp only [List.length_drop, List.length_take]; rfl)) ?_; (with_reducible refine (link_Label.calls ((((⟨#[91]⟩ : ByteArray) ++ a0) ++ (⟨#[93]⟩ : ByteArray)) ++ a1) t237 t238 _ A25.out).mono ?_); rintro e w65 ⟨rfl, hb⟩; refine ⟨_, rfl, ?_⟩; have n0_ := Aside0.mk (below_step (by repeat (first | (with_reducible first | exact HB.out | apply below_alloc | apply pw_below_drewN | apply below_drew1) | exact HB.out)) hb); clear HB; have HB := n0_; clear n0_; (try clear hb); (try clear hb2); (try clear hk); (try clear hi)) | ((with_reducible refine gate_callee (f := 10) rfl ?_); refine goesL_ (some 81) rfl rfl Tryz.func10 (by kernel_rfl) rfl #[.string ((((⟨#[91]⟩ : ByteArray) ++ a0) ++ (⟨#[91, 93]⟩ : ByteArray)) ++ a1)] rfl (by (try simp only [List.map_toArray, List.map_cons, List.map_nil]); first | done | rfl | (simp only [List.length_drop, List.length_take]; rfl)) ?_; (with_reducible refine (link_Label.calls ((((⟨#[91]⟩ : ByteArray) ++ a0) ++ (⟨#[91, 93]⟩ : ByteArray)) ++ a1) t239 t240 _ A28.out).mono ?_); rintro e w66 ⟨rfl, hb⟩; refine ⟨_, rfl, ?_⟩; have n0_ := Aside0.mk (below_step (by repeat (first | (with_reducible first | exact HB.out | apply below_alloc | apply pw_below_drewN | apply below_drew1) | exact HB.out)) hb); clear HB; have HB := n0_; clear n0_; (try clear hb); (try clear hb2); (try clear hk); (try clear hi)) | ((with_reducible refine gate_callee (f := 10) rfl ?_); refine goesL_ (some 90) rfl rfl Tryz.func10 (by kernel_rfl) rfl #[.string ((((⟨#[91, 120]⟩ : ByteArray) ++ a0) ++ (⟨#[92, 91, 93]⟩ : ByteArray)) ++ a1)] rfl (by (try simp only [List.map_toArray, List.map_cons, List.map_nil]); first | done | rfl | (simp only [List.length_drop, List.length_take]; rfl)) ?_; (with_reducible refine (link_Label.calls ((((⟨#[91, 120]⟩ : ByteArray) ++ a0) ++ (⟨#[92, 91, 93]⟩ : ByteArray)) ++ a1) t241 t242 _ A32.out).mono ?_); rintro e w67 ⟨rfl, hb⟩; refine ⟨_, rfl, ?_⟩; have n0_ := Aside0.mk (below_step (by repeat (first | (with_reducible first | exact HB.out | apply below_alloc | apply pw_below_drewN | apply below_drew1) | exact HB.out)) hb); clear HB; have HB := n0_; clear n0_; (try clear hb); (try clear hb2); (try clear hk); (try clear hi)))
                                        go_ret
                                        exact ⟨by first | rfl | exact retNe _ | (refine retEq ?_; first | exact szw c57b7 (by decide) (by decide) | exact szw c31b7 (by decide) (by decide) | exact szw c30b7 (by decide) (by decide) | exact szw c27b7 (by decide) (by decide) | exact szw c26b7 (by decide) (by decide) | exact szw c24b7 (by decide) (by decide) | exact szw c23b7 (by decide) (by decide)) | (simp [errW_none, errW_some] <;> rfl) | (simp [*, errW_none, errW_some] <;> rfl), by repeat (first | (with_reducible first | exact HB.out | apply below_alloc | apply pw_below_drewN | apply below_drew1) | exact HB.out)⟩
                                    · rw [if_neg c55] at H
                                      have c55b0 : (t238 == (wrap64 ((a0.size : Int) + 2))) = false := beq_eq_false_iff_ne.mpr c55
                                      (try have c55w : wrap64 ((a0.size : Int) + 2) = (a0.size : Int) + 2 := by first | exact szw c57b7 (by decide) (by decide) | exact szw c31b7 (by decide) (by decide) | exact szw c30b7 (by decide) (by decide) | exact szw c27b7 (by decide) (by decide) | exact szw c26b7 (by decide) (by decide) | exact szw c24b7 (by decide) (by decide) | exact szw c23b7 (by decide) (by decide))
                                      (try have c55w2 : (t238 == (a0.size : Int) + 2) = false := by have h_ := c55b0; rw [c55w] at h_; exact h_)
                                      (try have c55w1 : (t238 = (a0.size : Int) + 2) = False := eq_false (beq_eq_false_iff_ne.1 c55w2))
                                      (try clear c55w)
                                      have c55b1 : (t238 != (wrap64 ((a0.size : Int) + 2))) = true := bne_iff_ne.mpr c55
                                      obtain rfl := Option.some.inj H
                                      go_wp2_with (first | ((with_reducible refine gate_callee (f := 10) rfl ?_); refine goesL_ (some 72) rfl rfl Tryz.func10 (by kernel_rfl) rfl #[.string ((((⟨#[91]⟩ : ByteArray) ++ a0) ++ (⟨#[93]⟩ : ByteArray)) ++ a1)] rfl (by (try simp only [List.map_toArray, List.map_cons, List.map_nil]); first | done | rfl | (simp only [List.length_drop, List.length_take]; rfl)) ?_; (with_reducible refine (link_Label.calls ((((⟨#[91]⟩ : ByteArray) ++ a0) ++ (⟨#[93]⟩ : ByteArray)) ++ a1) t237 t238 _ A25.out).mono ?_); rintro e w68 ⟨rfl, hb⟩; refine ⟨_, rfl, ?_⟩; have n0_ := Aside0.mk (below_step (by repeat (first | (with_reducible first | exact HB.out | apply below_alloc | apply pw_below_drewN | apply below_drew1) | exact HB.out)) hb); clear HB; have HB := n0_; clear n0_; (try clear hb); (try clear hb2); (try clear hk); (try clear hi)) | ((with_reducible refine gate_callee (f := 10) rfl ?_); refine goesL_ (some 81) rfl rfl Tryz.func10 (by kernel_rfl) rfl #[.string ((((⟨#[91]⟩ : ByteArray) ++ a0) ++ (⟨#[91, 93]⟩ : ByteArray)) ++ a1)] rfl (by (try simp only [List.map_toArray, List.map_cons, List.map_nil]); first | done | rfl | (simp only [List.length_drop, List.length_take]; rfl)) ?_; (with_reducible refine (link_Label.calls ((((⟨#[91]⟩ : ByteArray) ++ a0) ++ (⟨#[91, 93]⟩ : ByteArray)) ++ a1) t239 t240 _ A28.out).mono ?_); rintro e w69 ⟨rfl, hb⟩; refine ⟨_, rfl, ?_⟩; have n0_ := Aside0.mk (below_step (by repeat (first | (with_reducible first | exact HB.out | apply below_alloc | apply pw_below_drewN | apply below_drew1) | exact HB.out)) hb); clear HB; have HB := n0_; clear n0_; (try clear hb); (try clear hb2); (try clear hk); (try clear hi)) | ((with_reducible refine gate_callee (f := 10) rfl ?_); refine goesL_ (some 90) rfl rfl Tryz.func10 (by kernel_rfl) rfl #[.string ((((⟨#[91, 120]⟩ : ByteArray) ++ a0) ++ (⟨#[92, 91, 93]⟩ : ByteArray)) ++ a1)] rfl (by (try simp only [List.map_toArray, List.map_cons, List.map_nil]); first | done | rfl | (simp only [List.length_drop, List.length_take]; rfl)) ?_; (with_reducible refine (link_Label.calls ((((⟨#[91, 120]⟩ : ByteArray) ++ a0) ++ (⟨#[92, 91, 93]⟩ : ByteArray)) ++ a1) t241 t242 _ A32.out).mono ?_); rintro e w70 ⟨rfl, hb⟩; refine ⟨_, rfl, ?_⟩; have n0_ := Aside0.mk (below_step (by repeat (first | (with_reducible first | exact HB.out | apply below_alloc | apply pw_below_drewN | apply below_drew1) | exact HB.out)) hb); clear HB; have HB := n0_; clear n0_; (try clear hb); (try clear hb2); (try clear hk); (try clear hi)))
                                      go_ret
                                      exact ⟨by first | rfl | exact retNe _ | (refine retEq ?_; first | exact szw c57b7 (by decide) (by decide) | exact szw c31b7 (by decide) (by decide) | exact szw c30b7 (by decide) (by decide) | exact szw c27b7 (by decide) (by decide) | exact szw c26b7 (by decide) (by decide) | exact szw c24b7 (by decide) (by decide) | exact szw c23b7 (by decide) (by decide)) | (simp [errW_none, errW_some] <;> rfl) | (simp [*, errW_none, errW_some] <;> rfl), by repeat (first | (with_reducible first | exact HB.out | apply below_alloc | apply pw_below_drewN | apply below_drew1) | exact HB.out)⟩
                                  · rw [if_neg c54] at H
                                    have c54b0 : (t237.toList == a0.toList) = false := beq_eq_false_iff_ne.mpr c54
                                    have c54b1 : (t237.toList != a0.toList) = true := bne_iff_ne.mpr c54
                                    obtain rfl := Option.some.inj H
                                    go_wp2_with (first | ((with_reducible refine gate_callee (f := 10) rfl ?_); refine goesL_ (some 72) rfl rfl Tryz.func10 (by kernel_rfl) rfl #[.string ((((⟨#[91]⟩ : ByteArray) ++ a0) ++ (⟨#[93]⟩ : ByteArray)) ++ a1)] rfl (by (try simp only [List.map_toArray, List.map_cons, List.map_nil]); first | done | rfl | (simp only [List.length_drop, List.length_take]; rfl)) ?_; (with_reducible refine (link_Label.calls ((((⟨#[91]⟩ : ByteArray) ++ a0) ++ (⟨#[93]⟩ : ByteArray)) ++ a1) t237 t238 _ A25.out).mono ?_); rintro e w71 ⟨rfl, hb⟩; refine ⟨_, rfl, ?_⟩; have n0_ := Aside0.mk (below_step (by repeat (first | (with_reducible first | exact HB.out | apply below_alloc | apply pw_below_drewN | apply below_drew1) | exact HB.out)) hb); clear HB; have HB := n0_; clear n0_; (try clear hb); (try clear hb2); (try clear hk); (try clear hi)) | ((with_reducible refine gate_callee (f := 10) rfl ?_); refine goesL_ (some 81) rfl rfl Tryz.func10 (by kernel_rfl) rfl #[.string ((((⟨#[91]⟩ : ByteArray) ++ a0) ++ (⟨#[91, 93]⟩ : ByteArray)) ++ a1)] rfl (by (try simp only [List.map_toArray, List.map_cons, List.map_nil]); first | done | rfl | (simp only [List.length_drop, List.length_take]; rfl)) ?_; (with_reducible refine (link_Label.calls ((((⟨#[91]⟩ : ByteArray) ++ a0) ++ (⟨#[91, 93]⟩ : ByteArray)) ++ a1) t239 t240 _ A28.out).mono ?_); rintro e w72 ⟨rfl, hb⟩; refine ⟨_, rfl, ?_⟩; have n0_ := Aside0.mk (below_step (by repeat (first | (with_reducible first | exact HB.out | apply below_alloc | apply pw_below_drewN | apply below_drew1) | exact HB.out)) hb); clear HB; have HB := n0_; clear n0_; (try clear hb); (try clear hb2); (try clear hk); (try clear hi)) | ((with_reducible refine gate_callee (f := 10) rfl ?_); refine goesL_ (some 90) rfl rfl Tryz.func10 (by kernel_rfl) rfl #[.string ((((⟨#[91, 120]⟩ : ByteArray) ++ a0) ++ (⟨#[92, 91, 93]⟩ : ByteArray)) ++ a1)] rfl (by (try simp only [List.map_toArray, List.map_cons, List.map_nil]); first | done | rfl | (simp only [List.length_drop, List.length_take]; rfl)) ?_; (with_reducible refine (link_Label.calls ((((⟨#[91, 120]⟩ : ByteArray) ++ a0) ++ (⟨#[92, 91, 93]⟩ : ByteArray)) ++ a1) t241 t242 _ A32.out).mono ?_); rintro e w73 ⟨rfl, hb⟩; refine ⟨_, rfl, ?_⟩; have n0_ := Aside0.mk (below_step (by repeat (first | (with_reducible first | exact HB.out | apply below_alloc | apply pw_below_drewN | apply below_drew1) | exact HB.out)) hb); clear HB; have HB := n0_; clear n0_; (try clear hb); (try clear hb2); (try clear hk); (try clear hi)))
                                    go_ret
                                    exact ⟨by first | rfl | exact retNe _ | (refine retEq ?_; first | exact szw c57b7 (by decide) (by decide) | exact szw c31b7 (by decide) (by decide) | exact szw c30b7 (by decide) (by decide) | exact szw c27b7 (by decide) (by decide) | exact szw c26b7 (by decide) (by decide) | exact szw c24b7 (by decide) (by decide) | exact szw c23b7 (by decide) (by decide)) | (simp [errW_none, errW_some] <;> rfl) | (simp [*, errW_none, errW_some] <;> rfl), by repeat (first | (with_reducible first | exact HB.out | apply below_alloc | apply pw_below_drewN | apply below_drew1) | exact HB.out)⟩
                                · replace c53 := Bool.eq_false_iff.mpr c53
                                  subst c53
                                  have H1 : (some false) = some r := by rw [if_neg (show ¬ (false = true) by decide)] at H; exact H
                                  clear H
                                  have H := H1
                                  clear H1
                                  obtain rfl := Option.some.inj H
                                  go_wp2_with (first | ((with_reducible refine gate_callee (f := 10) rfl ?_); refine goesL_ (some 72) rfl rfl Tryz.func10 (by kernel_rfl) rfl #[.string ((((⟨#[91]⟩ : ByteArray) ++ a0) ++ (⟨#[93]⟩ : ByteArray)) ++ a1)] rfl (by (try simp only [List.map_toArray, List.map_cons, List.map_nil]); first | done | rfl | (simp only [List.length_drop, List.length_take]; rfl)) ?_; (with_reducible refine (link_Label.calls ((((⟨#[91]⟩ : ByteArray) ++ a0) ++ (⟨#[93]⟩ : ByteArray)) ++ a1) t237 t238 _ A25.out).mono ?_); rintro e w74 ⟨rfl, hb⟩; refine ⟨_, rfl, ?_⟩; have n0_ := Aside0.mk (below_step (by repeat (first | (with_reducible first | exact HB.out | apply below_alloc | apply pw_below_drewN | apply below_drew1) | exact HB.out)) hb); clear HB; have HB := n0_; clear n0_; (try clear hb); (try clear hb2); (try clear hk); (try clear hi)) | ((with_reducible refine gate_callee (f := 10) rfl ?_); refine goesL_ (some 81) rfl rfl Tryz.func10 (by kernel_rfl) rfl #[.string ((((⟨#[91]⟩ : ByteArray) ++ a0) ++ (⟨#[91, 93]⟩ : ByteArray)) ++ a1)] rfl (by (try simp only [List.map_toArray, List.map_cons, List.map_nil]); first | done | rfl | (simp only [List.length_drop, List.length_take]; rfl)) ?_; (with_reducible refine (link_Label.calls ((((⟨#[91]⟩ : ByteArray) ++ a0) ++ (⟨#[91, 93]⟩ : ByteArray)) ++ a1) t239 t240 _ A28.out).mono ?_); rintro e w75 ⟨rfl, hb⟩; refine ⟨_, rfl, ?_⟩; have n0_ := Aside0.mk (below_step (by repeat (first | (with_reducible first | exact HB.out | apply below_alloc | apply pw_below_drewN | apply below_drew1) | exact HB.out)) hb); clear HB; have HB := n0_; clear n0_; (try clear hb); (try clear hb2); (try clear hk); (try clear hi)) | ((with_reducible refine gate_callee (f := 10) rfl ?_); refine goesL_ (some 90) rfl rfl Tryz.func10 (by kernel_rfl) rfl #[.string ((((⟨#[91, 120]⟩ : ByteArray) ++ a0) ++ (⟨#[92, 91, 93]⟩ : ByteArray)) ++ a1)] rfl (by (try simp only [List.map_toArray, List.map_cons, List.map_nil]); first | done | rfl | (simp only [List.length_drop, List.length_take]; rfl)) ?_; (with_reducible refine (link_Label.calls ((((⟨#[91, 120]⟩ : ByteArray) ++ a0) ++ (⟨#[92, 91, 93]⟩ : ByteArray)) ++ a1) t241 t242 _ A32.out).mono ?_); rintro e w76 ⟨rfl, hb⟩; refine ⟨_, rfl, ?_⟩; have n0_ := Aside0.mk (below_step (by repeat (first | (with_reducible first | exact HB.out | apply below_alloc | apply pw_below_drewN | apply below_drew1) | exact HB.out)) hb); clear HB; have HB := n0_; clear n0_; (try clear hb); (try clear hb2); (try clear hk); (try clear hi)))
                                  go_ret
                                  exact ⟨by first | rfl | exact retNe _ | (refine retEq ?_; first | exact szw c57b7 (by decide) (by decide) | exact szw c31b7 (by decide) (by decide) | exact szw c30b7 (by decide) (by decide) | exact szw c27b7 (by decide) (by decide) | exact szw c26b7 (by decide) (by decide) | exact szw c24b7 (by decide) (by decide) | exact szw c23b7 (by decide) (by decide)) | (simp [errW_none, errW_some] <;> rfl) | (simp [*, errW_none, errW_some] <;> rfl), by repeat (first | (with_reducible first | exact HB.out | apply below_alloc | apply pw_below_drewN | apply below_drew1) | exact HB.out)⟩
                            · rw [if_neg c31] at H
                              exact absurd H (by simp)
                          · rw [if_neg c30] at H
                            exact absurd H (by simp)
                        · rw [if_neg c29] at H
                          exact absurd H (by simp)
                      · rw [if_neg c27] at H
                        exact absurd H (by simp)
                    · rw [if_neg c26] at H
                      exact absurd H (by simp)
                  · rw [if_neg c24] at H
                    exact absurd H (by simp)
                · rw [if_neg c23] at H
                  exact absurd H (by simp)
              · rw [if_neg c22] at H
                exact absurd H (by simp)

/-! ### incipitlaw09_LinkNone: function 8 -/
def incipitlaw09_LinkNone.f (k : Nat) (a0 : ByteArray) : Option (Bool) := (incipitlaw09_awake.f k).bind fun t243 => (if (a0.size : Int) > 1000 then (some t243) else (if 1 + a0.size ≤ 9223372036854775807 then ((link_Label.f ((⟨#[120]⟩ : ByteArray) ++ a0)).bind fun bt244 => ((link_Title.f ((⟨#[120]⟩ : ByteArray) ++ a0)).bind fun bt246 => ((link_Tail.f k ((⟨#[120]⟩ : ByteArray) ++ a0)).bind fun bt248 => ((link_Title.f (⟨#[]⟩ : ByteArray)).bind fun bt251 => (if t243 = true then (if bt244.2 = 0 then (if bt246.2 = 0 then (if bt248.2.2 = 0 then (if bt251.2 = 0 then ((link_White.f ((⟨#[120]⟩ : ByteArray) ++ a0)).bind fun t253 => (if t253 = 0 then ((link_White.f ((⟨#[32]⟩ : ByteArray) ++ a0)).bind fun t254 => ((link_White.f a0).bind fun t255 => (some (t254 == (wrap64 (1 + t255)))))) else (some false))) else (some false)) else (some false)) else (some false)) else (some false)) else (some false)))))) else (none)))
theorem incipitlaw09_LinkNone.mono : ∀ a0 k, LeO (incipitlaw09_LinkNone.f k a0) (incipitlaw09_LinkNone.f (k + 1) a0) := by
  intro a0 k
  unfold incipitlaw09_LinkNone.f
  repeat' first
      | (with_reducible exact incipitlaw09_awake.mono _)
      | (with_reducible exact link_Tail.mono _ _)
      | (with_reducible exact LeO.refl _)
      | (with_reducible exact LeO.none _)
      | (with_reducible refine LeO.ite ?_ ?_)
      | (with_reducible refine LeO.bind ?_ (fun _ => ?_))
      | exact incipitlaw09_awake.mono _
      | exact link_Tail.mono _ _
      | exact LeO.none _
      | refine LeO.ite ?_ ?_
      | refine LeO.bind ?_ (fun _ => ?_)
set_option maxHeartbeats 8000000 in
set_option maxRecDepth 100000 in
theorem incipitlaw09_LinkNone.calls (k : Nat) (a0 : ByteArray) (r : Bool) (w : World) (hLd : Laid w) (h : incipitlaw09_LinkNone.f k a0 = some r) :
    Calls Tryz.prog 8 #[.string a0] w fun e w' => e = .returned (.bool r) ∧ Below w.heap.size w w' := by
  have HB := Aside0.mk (Below.refl w.heap.size w)
  have H : ((incipitlaw09_awake.f k).bind fun t243 => (if (a0.size : Int) > 1000 then (some t243) else (if 1 + a0.size ≤ 9223372036854775807 then ((link_Label.f ((⟨#[120]⟩ : ByteArray) ++ a0)).bind fun bt244 => ((link_Title.f ((⟨#[120]⟩ : ByteArray) ++ a0)).bind fun bt246 => ((link_Tail.f k ((⟨#[120]⟩ : ByteArray) ++ a0)).bind fun bt248 => ((link_Title.f (⟨#[]⟩ : ByteArray)).bind fun bt251 => (if t243 = true then (if bt244.2 = 0 then (if bt246.2 = 0 then (if bt248.2.2 = 0 then (if bt251.2 = 0 then ((link_White.f ((⟨#[120]⟩ : ByteArray) ++ a0)).bind fun t253 => (if t253 = 0 then ((link_White.f ((⟨#[32]⟩ : ByteArray) ++ a0)).bind fun t254 => ((link_White.f a0).bind fun t255 => (some (t254 == (wrap64 (1 + t255)))))) else (some false))) else (some false)) else (some false)) else (some false)) else (some false)) else (some false)))))) else (none)))) = some r := h
  clear h
  replace H := Option.bind_eq_some_iff.mp H
  obtain ⟨t243, A20, H⟩ := H
  replace H : (if (a0.size : Int) > 1000 then (some t243) else (if 1 + a0.size ≤ 9223372036854775807 then ((link_Label.f ((⟨#[120]⟩ : ByteArray) ++ a0)).bind fun bt244 => ((link_Title.f ((⟨#[120]⟩ : ByteArray) ++ a0)).bind fun bt246 => ((link_Tail.f k ((⟨#[120]⟩ : ByteArray) ++ a0)).bind fun bt248 => ((link_Title.f (⟨#[]⟩ : ByteArray)).bind fun bt251 => (if t243 = true then (if bt244.2 = 0 then (if bt246.2 = 0 then (if bt248.2.2 = 0 then (if bt251.2 = 0 then ((link_White.f ((⟨#[120]⟩ : ByteArray) ++ a0)).bind fun t253 => (if t253 = 0 then ((link_White.f ((⟨#[32]⟩ : ByteArray) ++ a0)).bind fun t254 => ((link_White.f a0).bind fun t255 => (some (t254 == (wrap64 (1 + t255)))))) else (some false))) else (some false)) else (some false)) else (some false)) else (some false)) else (some false)))))) else (none))) = some r := H
  have A2 := Aside0.mk A20
  clear A20
  by_cases c3 : (a0.size : Int) > 1000
  · rw [if_pos c3] at H
    have c3b0 : decide (1000 < (a0.size : Int)) = true := decide_eq_true c3
    have c3b1 : decide (1000 < a0.size) = true := decide_eq_true (by omega)
    clear c3
    obtain rfl := Option.some.inj H
    go_enter Tryz.func8, Tryz.ntmps8
    go_wp2_with (first | ((with_reducible refine gate_callee (f := 9) rfl ?_); refine goesL_ (some 13) rfl rfl Tryz.func9 (by kernel_rfl) rfl #[] rfl (by (try simp only [List.map_toArray, List.map_cons, List.map_nil]); first | done | rfl | (simp only [List.length_drop, List.length_take]; rfl)) ?_; (with_reducible refine (incipitlaw09_awake.calls k  t243 _ ?side1 A2.out).mono ?_); (case side1 => exact Laid.go hLd (by repeat (first | (with_reducible first | exact HB.out | apply below_alloc | apply pw_below_drewN | apply below_drew1) | exact HB.out))); rintro e w4 ⟨rfl, hb⟩; refine ⟨_, rfl, ?_⟩; have n0_ := Aside0.mk (below_step (by repeat (first | (with_reducible first | exact HB.out | apply below_alloc | apply pw_below_drewN | apply below_drew1) | exact HB.out)) hb); clear HB; have HB := n0_; clear n0_; (try clear hb); (try clear hb2); (try clear hk); (try clear hi)))
    go_ret
    exact ⟨by first | rfl | exact retNe _ | (simp [errW_none, errW_some] <;> rfl) | (simp [*, errW_none, errW_some] <;> rfl), by repeat (first | (with_reducible first | exact HB.out | apply below_alloc | apply pw_below_drewN | apply below_drew1) | exact HB.out)⟩
  · rw [if_neg c3] at H
    have c3b0 : decide (1000 < (a0.size : Int)) = false := decide_eq_false c3
    have c3b1 : decide (1000 < a0.size) = false := decide_eq_false (by omega)
    clear c3
    by_cases c5 : 1 + a0.size ≤ 9223372036854775807
    · rw [if_pos c5] at H
      have c5b0 := eq_true c5
      have c5b1 : decide (1 + a0.size ≤ 9223372036854775807) = true := decide_eq_true c5
      try have c5b2 : (9223372036854775807 < 1 + a0.size) = False := eq_false (Nat.not_lt.2 c5)
      replace H := Option.bind_eq_some_iff.mp H
      obtain ⟨⟨t244, t245⟩, A60, H⟩ := H
      replace H : ((link_Title.f ((⟨#[120]⟩ : ByteArray) ++ a0)).bind fun bt246 => ((link_Tail.f k ((⟨#[120]⟩ : ByteArray) ++ a0)).bind fun bt248 => ((link_Title.f (⟨#[]⟩ : ByteArray)).bind fun bt251 => (if t243 = true then (if t245 = 0 then (if bt246.2 = 0 then (if bt248.2.2 = 0 then (if bt251.2 = 0 then ((link_White.f ((⟨#[120]⟩ : ByteArray) ++ a0)).bind fun t253 => (if t253 = 0 then ((link_White.f ((⟨#[32]⟩ : ByteArray) ++ a0)).bind fun t254 => ((link_White.f a0).bind fun t255 => (some (t254 == (wrap64 (1 + t255)))))) else (some false))) else (some false)) else (some false)) else (some false)) else (some false)) else (some false))))) = some r := H
      have A6 := Aside0.mk A60
      clear A60
      replace H := Option.bind_eq_some_iff.mp H
      obtain ⟨⟨t246, t247⟩, A70, H⟩ := H
      replace H : ((link_Tail.f k ((⟨#[120]⟩ : ByteArray) ++ a0)).bind fun bt248 => ((link_Title.f (⟨#[]⟩ : ByteArray)).bind fun bt251 => (if t243 = true then (if t245 = 0 then (if t247 = 0 then (if bt248.2.2 = 0 then (if bt251.2 = 0 then ((link_White.f ((⟨#[120]⟩ : ByteArray) ++ a0)).bind fun t253 => (if t253 = 0 then ((link_White.f ((⟨#[32]⟩ : ByteArray) ++ a0)).bind fun t254 => ((link_White.f a0).bind fun t255 => (some (t254 == (wrap64 (1 + t255)))))) else (some false))) else (some false)) else (some false)) else (some false)) else (some false)) else (some false)))) = some r := H
      have A7 := Aside0.mk A70
      clear A70
      replace H := Option.bind_eq_some_iff.mp H
      obtain ⟨⟨t248, t249, t250⟩, A80, H⟩ := H
      replace H : ((link_Title.f (⟨#[]⟩ : ByteArray)).bind fun bt251 => (if t243 = true then (if t245 = 0 then (if t247 = 0 then (if t250 = 0 then (if bt251.2 = 0 then ((link_White.f ((⟨#[120]⟩ : ByteArray) ++ a0)).bind fun t253 => (if t253 = 0 then ((link_White.f ((⟨#[32]⟩ : ByteArray) ++ a0)).bind fun t254 => ((link_White.f a0).bind fun t255 => (some (t254 == (wrap64 (1 + t255)))))) else (some false))) else (some false)) else (some false)) else (some false)) else (some false)) else (some false))) = some r := H
      have A8 := Aside0.mk A80
      clear A80
      replace H := Option.bind_eq_some_iff.mp H
      obtain ⟨⟨t251, t252⟩, A90, H⟩ := H
      replace H : (if t243 = true then (if t245 = 0 then (if t247 = 0 then (if t250 = 0 then (if t252 = 0 then ((link_White.f ((⟨#[120]⟩ : ByteArray) ++ a0)).bind fun t253 => (if t253 = 0 then ((link_White.f ((⟨#[32]⟩ : ByteArray) ++ a0)).bind fun t254 => ((link_White.f a0).bind fun t255 => (some (t254 == (wrap64 (1 + t255)))))) else (some false))) else (some false)) else (some false)) else (some false)) else (some false)) else (some false)) = some r := H
      have A9 := Aside0.mk A90
      clear A90
      by_cases c10 : t243 = true
      · subst c10
        have H1 : (if t245 = 0 then (if t247 = 0 then (if t250 = 0 then (if t252 = 0 then ((link_White.f ((⟨#[120]⟩ : ByteArray) ++ a0)).bind fun t253 => (if t253 = 0 then ((link_White.f ((⟨#[32]⟩ : ByteArray) ++ a0)).bind fun t254 => ((link_White.f a0).bind fun t255 => (some (t254 == (wrap64 (1 + t255)))))) else (some false))) else (some false)) else (some false)) else (some false)) else (some false)) = some r := by rw [if_pos rfl] at H; exact H
        clear H
        have H := H1
        clear H1
        by_cases c11 : t245 = 0
        · rw [if_pos c11] at H
          have c11b0 : (t245 == 0) = true := beq_iff_eq.mpr c11
          have c11b1 : (t245 != 0) = false := bne_eq_false_iff_eq.mpr c11
          clear c11
          by_cases c12 : t247 = 0
          · rw [if_pos c12] at H
            have c12b0 : (t247 == 0) = true := beq_iff_eq.mpr c12
            have c12b1 : (t247 != 0) = false := bne_eq_false_iff_eq.mpr c12
            clear c12
            by_cases c13 : t250 = 0
            · rw [if_pos c13] at H
              have c13b0 : (t250 == 0) = true := beq_iff_eq.mpr c13
              have c13b1 : (t250 != 0) = false := bne_eq_false_iff_eq.mpr c13
              clear c13
              by_cases c14 : t252 = 0
              · rw [if_pos c14] at H
                have c14b0 : (t252 == 0) = true := beq_iff_eq.mpr c14
                have c14b1 : (t252 != 0) = false := bne_eq_false_iff_eq.mpr c14
                clear c14
                replace H := Option.bind_eq_some_iff.mp H
                obtain ⟨t253, A150, H⟩ := H
                replace H : (if t253 = 0 then ((link_White.f ((⟨#[32]⟩ : ByteArray) ++ a0)).bind fun t254 => ((link_White.f a0).bind fun t255 => (some (t254 == (wrap64 (1 + t255)))))) else (some false)) = some r := H
                have A15 := Aside0.mk A150
                clear A150
                by_cases c16 : t253 = 0
                · rw [if_pos c16] at H
                  have c16b0 : (t253 == 0) = true := beq_iff_eq.mpr c16
                  have c16b1 : (t253 != 0) = false := bne_eq_false_iff_eq.mpr c16
                  clear c16
                  replace H := Option.bind_eq_some_iff.mp H
                  obtain ⟨t254, A170, H⟩ := H
                  replace H : ((link_White.f a0).bind fun t255 => (some (t254 == (wrap64 (1 + t255))))) = some r := H
                  have A17 := Aside0.mk A170
                  clear A170
                  replace H := Option.bind_eq_some_iff.mp H
                  obtain ⟨t255, A180, H⟩ := H
                  replace H : (some (t254 == (wrap64 (1 + t255)))) = some r := H
                  have A18 := Aside0.mk A180
                  clear A180
                  obtain rfl := Option.some.inj H
                  go_enter Tryz.func8, Tryz.ntmps8
                  go_wp2_with (first | ((with_reducible refine gate_callee (f := 9) rfl ?_); refine goesL_ (some 13) rfl rfl Tryz.func9 (by kernel_rfl) rfl #[] rfl (by (try simp only [List.map_toArray, List.map_cons, List.map_nil]); first | done | rfl | (simp only [List.length_drop, List.length_take]; rfl)) ?_; (with_reducible refine (incipitlaw09_awake.calls k  true _ ?side1 A2.out).mono ?_); (case side1 => exact Laid.go hLd (by repeat (first | (with_reducible first | exact HB.out | apply below_alloc | apply pw_below_drewN | apply below_drew1) | exact HB.out))); rintro e w19 ⟨rfl, hb⟩; refine ⟨_, rfl, ?_⟩; have n0_ := Aside0.mk (below_step (by repeat (first | (with_reducible first | exact HB.out | apply below_alloc | apply pw_below_drewN | apply below_drew1) | exact HB.out)) hb); clear HB; have HB := n0_; clear n0_; (try clear hb); (try clear hb2); (try clear hk); (try clear hi)) | ((with_reducible refine gate_callee (f := 10) rfl ?_); refine goesL_ (some 21) rfl rfl Tryz.func10 (by kernel_rfl) rfl #[.string ((⟨#[120]⟩ : ByteArray) ++ a0)] rfl (by (try simp only [List.map_toArray, List.map_cons, List.map_nil]); first | done | rfl | (simp only [List.length_drop, List.length_take]; rfl)) ?_; (with_reducible refine (link_Label.calls ((⟨#[120]⟩ : ByteArray) ++ a0) t244 t245 _ A6.out).mono ?_); rintro e w20 ⟨rfl, hb⟩; refine ⟨_, rfl, ?_⟩; have n0_ := Aside0.mk (below_step (by repeat (first | (with_reducible first | exact HB.out | apply below_alloc | apply pw_below_drewN | apply below_drew1) | exact HB.out)) hb); clear HB; have HB := n0_; clear n0_; (try clear hb); (try clear hb2); (try clear hk); (try clear hi)) | ((with_reducible refine gate_callee (f := 14) rfl ?_); refine goesL_ (some 27) rfl rfl Tryz.func14 (by kernel_rfl) rfl #[.string ((⟨#[120]⟩ : ByteArray) ++ a0)] rfl (by (try simp only [List.map_toArray, List.map_cons, List.map_nil]); first | done | rfl | (simp only [List.length_drop, List.length_take]; rfl)) ?_; (with_reducible refine (link_Title.calls ((⟨#[120]⟩ : ByteArray) ++ a0) t246 t247 _ ?side1 A7.out).mono ?_); (case side1 => exact Laid.go hLd (by repeat (first | (with_reducible first | exact HB.out | apply below_alloc | apply pw_below_drewN | apply below_drew1) | exact HB.out))); rintro e w21 ⟨rfl, hb⟩; refine ⟨_, rfl, ?_⟩; have n0_ := Aside0.mk (below_step (by repeat (first | (with_reducible first | exact HB.out | apply below_alloc | apply pw_below_drewN | apply below_drew1) | exact HB.out)) hb); clear HB; have HB := n0_; clear n0_; (try clear hb); (try clear hb2); (try clear hk); (try clear hi)) | ((with_reducible refine gate_callee (f := 16) rfl ?_); refine goesL_ (some 33) rfl rfl Tryz.func16 (by kernel_rfl) rfl #[.string ((⟨#[120]⟩ : ByteArray) ++ a0)] rfl (by (try simp only [List.map_toArray, List.map_cons, List.map_nil]); first | done | rfl | (simp only [List.length_drop, List.length_take]; rfl)) ?_; (with_reducible refine (link_Tail.calls k ((⟨#[120]⟩ : ByteArray) ++ a0) t248 t249 t250 _ ?side1 A8.out).mono ?_); (case side1 => exact Laid.go hLd (by repeat (first | (with_reducible first | exact HB.out | apply below_alloc | apply pw_below_drewN | apply below_drew1) | exact HB.out))); rintro e w22 ⟨rfl, hb⟩; refine ⟨_, rfl, ?_⟩; have n0_ := Aside0.mk (below_step (by repeat (first | (with_reducible first | exact HB.out | apply below_alloc | apply pw_below_drewN | apply below_drew1) | exact HB.out)) hb); clear HB; have HB := n0_; clear n0_; (try clear hb); (try clear hb2); (try clear hk); (try clear hi)) | ((with_reducible refine gate_callee (f := 14) rfl ?_); refine goesL_ (some 38) rfl rfl Tryz.func14 (by kernel_rfl) rfl #[.string (⟨#[]⟩ : ByteArray)] rfl (by (try simp only [List.map_toArray, List.map_cons, List.map_nil]); first | done | rfl | (simp only [List.length_drop, List.length_take]; rfl)) ?_; (with_reducible refine (link_Title.calls (⟨#[]⟩ : ByteArray) t251 t252 _ ?side1 A9.out).mono ?_); (case side1 => exact Laid.go hLd (by repeat (first | (with_reducible first | exact HB.out | apply below_alloc | apply pw_below_drewN | apply below_drew1) | exact HB.out))); rintro e w23 ⟨rfl, hb⟩; refine ⟨_, rfl, ?_⟩; have n0_ := Aside0.mk (below_step (by repeat (first | (with_reducible first | exact HB.out | apply below_alloc | apply pw_below_drewN | apply below_drew1) | exact HB.out)) hb); clear HB; have HB := n0_; clear n0_; (try clear hb); (try clear hb2); (try clear hk); (try clear hi)) | (go_at_call 18; (with_reducible refine (link_White.calls ((⟨#[120]⟩ : ByteArray) ++ a0) t253 _ A15.out).mono ?_); rintro e w24 ⟨rfl, hb⟩; have n0_ := Aside0.mk (below_step (by repeat (first | (with_reducible first | exact HB.out | apply below_alloc | apply pw_below_drewN | apply below_drew1) | exact HB.out)) hb); clear HB; have HB := n0_; clear n0_; (try clear hb); (try clear hb2); (try clear hk); (try clear hi)) | (go_at_call 18; (with_reducible refine (link_White.calls ((⟨#[32]⟩ : ByteArray) ++ a0) t254 _ A17.out).mono ?_); rintro e w25 ⟨rfl, hb⟩; have n0_ := Aside0.mk (below_step (by repeat (first | (with_reducible first | exact HB.out | apply below_alloc | apply pw_below_drewN | apply below_drew1) | exact HB.out)) hb); clear HB; have HB := n0_; clear n0_; (try clear hb); (try clear hb2); (try clear hk); (try clear hi)) | (go_at_call 18; (with_reducible refine (link_White.calls a0 t255 _ A18.out).mono ?_); rintro e w26 ⟨rfl, hb⟩; have n0_ := Aside0.mk (below_step (by repeat (first | (with_reducible first | exact HB.out | apply below_alloc | apply pw_below_drewN | apply below_drew1) | exact HB.out)) hb); clear HB; have HB := n0_; clear n0_; (try clear hb); (try clear hb2); (try clear hk); (try clear hi)))
                  go_ret
                  exact ⟨by first | rfl | exact retNe _ | (simp [errW_none, errW_some] <;> rfl) | (simp [*, errW_none, errW_some] <;> rfl), by repeat (first | (with_reducible first | exact HB.out | apply below_alloc | apply pw_below_drewN | apply below_drew1) | exact HB.out)⟩
                · rw [if_neg c16] at H
                  have c16b0 : (t253 == 0) = false := beq_eq_false_iff_ne.mpr c16
                  have c16b1 : (t253 != 0) = true := bne_iff_ne.mpr c16
                  obtain rfl := Option.some.inj H
                  go_enter Tryz.func8, Tryz.ntmps8
                  go_wp2_with (first | ((with_reducible refine gate_callee (f := 9) rfl ?_); refine goesL_ (some 13) rfl rfl Tryz.func9 (by kernel_rfl) rfl #[] rfl (by (try simp only [List.map_toArray, List.map_cons, List.map_nil]); first | done | rfl | (simp only [List.length_drop, List.length_take]; rfl)) ?_; (with_reducible refine (incipitlaw09_awake.calls k  true _ ?side1 A2.out).mono ?_); (case side1 => exact Laid.go hLd (by repeat (first | (with_reducible first | exact HB.out | apply below_alloc | apply pw_below_drewN | apply below_drew1) | exact HB.out))); rintro e w27 ⟨rfl, hb⟩; refine ⟨_, rfl, ?_⟩; have n0_ := Aside0.mk (below_step (by repeat (first | (with_reducible first | exact HB.out | apply below_alloc | apply pw_below_drewN | apply below_drew1) | exact HB.out)) hb); clear HB; have HB := n0_; clear n0_; (try clear hb); (try clear hb2); (try clear hk); (try clear hi)) | ((with_reducible refine gate_callee (f := 10) rfl ?_); refine goesL_ (some 21) rfl rfl Tryz.func10 (by kernel_rfl) rfl #[.string ((⟨#[120]⟩ : ByteArray) ++ a0)] rfl (by (try simp only [List.map_toArray, List.map_cons, List.map_nil]); first | done | rfl | (simp only [List.length_drop, List.length_take]; rfl)) ?_; (with_reducible refine (link_Label.calls ((⟨#[120]⟩ : ByteArray) ++ a0) t244 t245 _ A6.out).mono ?_); rintro e w28 ⟨rfl, hb⟩; refine ⟨_, rfl, ?_⟩; have n0_ := Aside0.mk (below_step (by repeat (first | (with_reducible first | exact HB.out | apply below_alloc | apply pw_below_drewN | apply below_drew1) | exact HB.out)) hb); clear HB; have HB := n0_; clear n0_; (try clear hb); (try clear hb2); (try clear hk); (try clear hi)) | ((with_reducible refine gate_callee (f := 14) rfl ?_); refine goesL_ (some 27) rfl rfl Tryz.func14 (by kernel_rfl) rfl #[.string ((⟨#[120]⟩ : ByteArray) ++ a0)] rfl (by (try simp only [List.map_toArray, List.map_cons, List.map_nil]); first | done | rfl | (simp only [List.length_drop, List.length_take]; rfl)) ?_; (with_reducible refine (link_Title.calls ((⟨#[120]⟩ : ByteArray) ++ a0) t246 t247 _ ?side1 A7.out).mono ?_); (case side1 => exact Laid.go hLd (by repeat (first | (with_reducible first | exact HB.out | apply below_alloc | apply pw_below_drewN | apply below_drew1) | exact HB.out))); rintro e w29 ⟨rfl, hb⟩; refine ⟨_, rfl, ?_⟩; have n0_ := Aside0.mk (below_step (by repeat (first | (with_reducible first | exact HB.out | apply below_alloc | apply pw_below_drewN | apply below_drew1) | exact HB.out)) hb); clear HB; have HB := n0_; clear n0_; (try clear hb); (try clear hb2); (try clear hk); (try clear hi)) | ((with_reducible refine gate_callee (f := 16) rfl ?_); refine goesL_ (some 33) rfl rfl Tryz.func16 (by kernel_rfl) rfl #[.string ((⟨#[120]⟩ : ByteArray) ++ a0)] rfl (by (try simp only [List.map_toArray, List.map_cons, List.map_nil]); first | done | rfl | (simp only [List.length_drop, List.length_take]; rfl)) ?_; (with_reducible refine (link_Tail.calls k ((⟨#[120]⟩ : ByteArray) ++ a0) t248 t249 t250 _ ?side1 A8.out).mono ?_); (case side1 => exact Laid.go hLd (by repeat (first | (with_reducible first | exact HB.out | apply below_alloc | apply pw_below_drewN | apply below_drew1) | exact HB.out))); rintro e w30 ⟨rfl, hb⟩; refine ⟨_, rfl, ?_⟩; have n0_ := Aside0.mk (below_step (by repeat (first | (with_reducible first | exact HB.out | apply below_alloc | apply pw_below_drewN | apply below_drew1) | exact HB.out)) hb); clear HB; have HB := n0_; clear n0_; (try clear hb); (try clear hb2); (try clear hk); (try clear hi)) | ((with_reducible refine gate_callee (f := 14) rfl ?_); refine goesL_ (some 38) rfl rfl Tryz.func14 (by kernel_rfl) rfl #[.string (⟨#[]⟩ : ByteArray)] rfl (by (try simp only [List.map_toArray, List.map_cons, List.map_nil]); first | done | rfl | (simp only [List.length_drop, List.length_take]; rfl)) ?_; (with_reducible refine (link_Title.calls (⟨#[]⟩ : ByteArray) t251 t252 _ ?side1 A9.out).mono ?_); (case side1 => exact Laid.go hLd (by repeat (first | (with_reducible first | exact HB.out | apply below_alloc | apply pw_below_drewN | apply below_drew1) | exact HB.out))); rintro e w31 ⟨rfl, hb⟩; refine ⟨_, rfl, ?_⟩; have n0_ := Aside0.mk (below_step (by repeat (first | (with_reducible first | exact HB.out | apply below_alloc | apply pw_below_drewN | apply below_drew1) | exact HB.out)) hb); clear HB; have HB := n0_; clear n0_; (try clear hb); (try clear hb2); (try clear hk); (try clear hi)) | (go_at_call 18; (with_reducible refine (link_White.calls ((⟨#[120]⟩ : ByteArray) ++ a0) t253 _ A15.out).mono ?_); rintro e w32 ⟨rfl, hb⟩; have n0_ := Aside0.mk (below_step (by repeat (first | (with_reducible first | exact HB.out | apply below_alloc | apply pw_below_drewN | apply below_drew1) | exact HB.out)) hb); clear HB; have HB := n0_; clear n0_; (try clear hb); (try clear hb2); (try clear hk); (try clear hi)))
                  go_ret
                  exact ⟨by first | rfl | exact retNe _ | (simp [errW_none, errW_some] <;> rfl) | (simp [*, errW_none, errW_some] <;> rfl), by repeat (first | (with_reducible first | exact HB.out | apply below_alloc | apply pw_below_drewN | apply below_drew1) | exact HB.out)⟩
              · rw [if_neg c14] at H
                have c14b0 : (t252 == 0) = false := beq_eq_false_iff_ne.mpr c14
                have c14b1 : (t252 != 0) = true := bne_iff_ne.mpr c14
                obtain rfl := Option.some.inj H
                go_enter Tryz.func8, Tryz.ntmps8
                go_wp2_with (first | ((with_reducible refine gate_callee (f := 9) rfl ?_); refine goesL_ (some 13) rfl rfl Tryz.func9 (by kernel_rfl) rfl #[] rfl (by (try simp only [List.map_toArray, List.map_cons, List.map_nil]); first | done | rfl | (simp only [List.length_drop, List.length_take]; rfl)) ?_; (with_reducible refine (incipitlaw09_awake.calls k  true _ ?side1 A2.out).mono ?_); (case side1 => exact Laid.go hLd (by repeat (first | (with_reducible first | exact HB.out | apply below_alloc | apply pw_below_drewN | apply below_drew1) | exact HB.out))); rintro e w33 ⟨rfl, hb⟩; refine ⟨_, rfl, ?_⟩; have n0_ := Aside0.mk (below_step (by repeat (first | (with_reducible first | exact HB.out | apply below_alloc | apply pw_below_drewN | apply below_drew1) | exact HB.out)) hb); clear HB; have HB := n0_; clear n0_; (try clear hb); (try clear hb2); (try clear hk); (try clear hi)) | ((with_reducible refine gate_callee (f := 10) rfl ?_); refine goesL_ (some 21) rfl rfl Tryz.func10 (by kernel_rfl) rfl #[.string ((⟨#[120]⟩ : ByteArray) ++ a0)] rfl (by (try simp only [List.map_toArray, List.map_cons, List.map_nil]); first | done | rfl | (simp only [List.length_drop, List.length_take]; rfl)) ?_; (with_reducible refine (link_Label.calls ((⟨#[120]⟩ : ByteArray) ++ a0) t244 t245 _ A6.out).mono ?_); rintro e w34 ⟨rfl, hb⟩; refine ⟨_, rfl, ?_⟩; have n0_ := Aside0.mk (below_step (by repeat (first | (with_reducible first | exact HB.out | apply below_alloc | apply pw_below_drewN | apply below_drew1) | exact HB.out)) hb); clear HB; have HB := n0_; clear n0_; (try clear hb); (try clear hb2); (try clear hk); (try clear hi)) | ((with_reducible refine gate_callee (f := 14) rfl ?_); refine goesL_ (some 27) rfl rfl Tryz.func14 (by kernel_rfl) rfl #[.string ((⟨#[120]⟩ : ByteArray) ++ a0)] rfl (by (try simp only [List.map_toArray, List.map_cons, List.map_nil]); first | done | rfl | (simp only [List.length_drop, List.length_take]; rfl)) ?_; (with_reducible refine (link_Title.calls ((⟨#[120]⟩ : ByteArray) ++ a0) t246 t247 _ ?side1 A7.out).mono ?_); (case side1 => exact Laid.go hLd (by repeat (first | (with_reducible first | exact HB.out | apply below_alloc | apply pw_below_drewN | apply below_drew1) | exact HB.out))); rintro e w35 ⟨rfl, hb⟩; refine ⟨_, rfl, ?_⟩; have n0_ := Aside0.mk (below_step (by repeat (first | (with_reducible first | exact HB.out | apply below_alloc | apply pw_below_drewN | apply below_drew1) | exact HB.out)) hb); clear HB; have HB := n0_; clear n0_; (try clear hb); (try clear hb2); (try clear hk); (try clear hi)) | ((with_reducible refine gate_callee (f := 16) rfl ?_); refine goesL_ (some 33) rfl rfl Tryz.func16 (by kernel_rfl) rfl #[.string ((⟨#[120]⟩ : ByteArray) ++ a0)] rfl (by (try simp only [List.map_toArray, List.map_cons, List.map_nil]); first | done | rfl | (simp only [List.length_drop, List.length_take]; rfl)) ?_; (with_reducible refine (link_Tail.calls k ((⟨#[120]⟩ : ByteArray) ++ a0) t248 t249 t250 _ ?side1 A8.out).mono ?_); (case side1 => exact Laid.go hLd (by repeat (first | (with_reducible first | exact HB.out | apply below_alloc | apply pw_below_drewN | apply below_drew1) | exact HB.out))); rintro e w36 ⟨rfl, hb⟩; refine ⟨_, rfl, ?_⟩; have n0_ := Aside0.mk (below_step (by repeat (first | (with_reducible first | exact HB.out | apply below_alloc | apply pw_below_drewN | apply below_drew1) | exact HB.out)) hb); clear HB; have HB := n0_; clear n0_; (try clear hb); (try clear hb2); (try clear hk); (try clear hi)) | ((with_reducible refine gate_callee (f := 14) rfl ?_); refine goesL_ (some 38) rfl rfl Tryz.func14 (by kernel_rfl) rfl #[.string (⟨#[]⟩ : ByteArray)] rfl (by (try simp only [List.map_toArray, List.map_cons, List.map_nil]); first | done | rfl | (simp only [List.length_drop, List.length_take]; rfl)) ?_; (with_reducible refine (link_Title.calls (⟨#[]⟩ : ByteArray) t251 t252 _ ?side1 A9.out).mono ?_); (case side1 => exact Laid.go hLd (by repeat (first | (with_reducible first | exact HB.out | apply below_alloc | apply pw_below_drewN | apply below_drew1) | exact HB.out))); rintro e w37 ⟨rfl, hb⟩; refine ⟨_, rfl, ?_⟩; have n0_ := Aside0.mk (below_step (by repeat (first | (with_reducible first | exact HB.out | apply below_alloc | apply pw_below_drewN | apply below_drew1) | exact HB.out)) hb); clear HB; have HB := n0_; clear n0_; (try clear hb); (try clear hb2); (try clear hk); (try clear hi)))
                go_ret
                exact ⟨by first | rfl | exact retNe _ | (simp [errW_none, errW_some] <;> rfl) | (simp [*, errW_none, errW_some] <;> rfl), by repeat (first | (with_reducible first | exact HB.out | apply below_alloc | apply pw_below_drewN | apply below_drew1) | exact HB.out)⟩
            · rw [if_neg c13] at H
              have c13b0 : (t250 == 0) = false := beq_eq_false_iff_ne.mpr c13
              have c13b1 : (t250 != 0) = true := bne_iff_ne.mpr c13
              obtain rfl := Option.some.inj H
              go_enter Tryz.func8, Tryz.ntmps8
              go_wp2_with (first | ((with_reducible refine gate_callee (f := 9) rfl ?_); refine goesL_ (some 13) rfl rfl Tryz.func9 (by kernel_rfl) rfl #[] rfl (by (try simp only [List.map_toArray, List.map_cons, List.map_nil]); first | done | rfl | (simp only [List.length_drop, List.length_take]; rfl)) ?_; (with_reducible refine (incipitlaw09_awake.calls k  true _ ?side1 A2.out).mono ?_); (case side1 => exact Laid.go hLd (by repeat (first | (with_reducible first | exact HB.out | apply below_alloc | apply pw_below_drewN | apply below_drew1) | exact HB.out))); rintro e w38 ⟨rfl, hb⟩; refine ⟨_, rfl, ?_⟩; have n0_ := Aside0.mk (below_step (by repeat (first | (with_reducible first | exact HB.out | apply below_alloc | apply pw_below_drewN | apply below_drew1) | exact HB.out)) hb); clear HB; have HB := n0_; clear n0_; (try clear hb); (try clear hb2); (try clear hk); (try clear hi)) | ((with_reducible refine gate_callee (f := 10) rfl ?_); refine goesL_ (some 21) rfl rfl Tryz.func10 (by kernel_rfl) rfl #[.string ((⟨#[120]⟩ : ByteArray) ++ a0)] rfl (by (try simp only [List.map_toArray, List.map_cons, List.map_nil]); first | done | rfl | (simp only [List.length_drop, List.length_take]; rfl)) ?_; (with_reducible refine (link_Label.calls ((⟨#[120]⟩ : ByteArray) ++ a0) t244 t245 _ A6.out).mono ?_); rintro e w39 ⟨rfl, hb⟩; refine ⟨_, rfl, ?_⟩; have n0_ := Aside0.mk (below_step (by repeat (first | (with_reducible first | exact HB.out | apply below_alloc | apply pw_below_drewN | apply below_drew1) | exact HB.out)) hb); clear HB; have HB := n0_; clear n0_; (try clear hb); (try clear hb2); (try clear hk); (try clear hi)) | ((with_reducible refine gate_callee (f := 14) rfl ?_); refine goesL_ (some 27) rfl rfl Tryz.func14 (by kernel_rfl) rfl #[.string ((⟨#[120]⟩ : ByteArray) ++ a0)] rfl (by (try simp only [List.map_toArray, List.map_cons, List.map_nil]); first | done | rfl | (simp only [List.length_drop, List.length_take]; rfl)) ?_; (with_reducible refine (link_Title.calls ((⟨#[120]⟩ : ByteArray) ++ a0) t246 t247 _ ?side1 A7.out).mono ?_); (case side1 => exact Laid.go hLd (by repeat (first | (with_reducible first | exact HB.out | apply below_alloc | apply pw_below_drewN | apply below_drew1) | exact HB.out))); rintro e w40 ⟨rfl, hb⟩; refine ⟨_, rfl, ?_⟩; have n0_ := Aside0.mk (below_step (by repeat (first | (with_reducible first | exact HB.out | apply below_alloc | apply pw_below_drewN | apply below_drew1) | exact HB.out)) hb); clear HB; have HB := n0_; clear n0_; (try clear hb); (try clear hb2); (try clear hk); (try clear hi)) | ((with_reducible refine gate_callee (f := 16) rfl ?_); refine goesL_ (some 33) rfl rfl Tryz.func16 (by kernel_rfl) rfl #[.string ((⟨#[120]⟩ : ByteArray) ++ a0)] rfl (by (try simp only [List.map_toArray, List.map_cons, List.map_nil]); first | done | rfl | (simp only [List.length_drop, List.length_take]; rfl)) ?_; (with_reducible refine (link_Tail.calls k ((⟨#[120]⟩ : ByteArray) ++ a0) t248 t249 t250 _ ?side1 A8.out).mono ?_); (case side1 => exact Laid.go hLd (by repeat (first | (with_reducible first | exact HB.out | apply below_alloc | apply pw_below_drewN | apply below_drew1) | exact HB.out))); rintro e w41 ⟨rfl, hb⟩; refine ⟨_, rfl, ?_⟩; have n0_ := Aside0.mk (below_step (by repeat (first | (with_reducible first | exact HB.out | apply below_alloc | apply pw_below_drewN | apply below_drew1) | exact HB.out)) hb); clear HB; have HB := n0_; clear n0_; (try clear hb); (try clear hb2); (try clear hk); (try clear hi)) | ((with_reducible refine gate_callee (f := 14) rfl ?_); refine goesL_ (some 38) rfl rfl Tryz.func14 (by kernel_rfl) rfl #[.string (⟨#[]⟩ : ByteArray)] rfl (by (try simp only [List.map_toArray, List.map_cons, List.map_nil]); first | done | rfl | (simp only [List.length_drop, List.length_take]; rfl)) ?_; (with_reducible refine (link_Title.calls (⟨#[]⟩ : ByteArray) t251 t252 _ ?side1 A9.out).mono ?_); (case side1 => exact Laid.go hLd (by repeat (first | (with_reducible first | exact HB.out | apply below_alloc | apply pw_below_drewN | apply below_drew1) | exact HB.out))); rintro e w42 ⟨rfl, hb⟩; refine ⟨_, rfl, ?_⟩; have n0_ := Aside0.mk (below_step (by repeat (first | (with_reducible first | exact HB.out | apply below_alloc | apply pw_below_drewN | apply below_drew1) | exact HB.out)) hb); clear HB; have HB := n0_; clear n0_; (try clear hb); (try clear hb2); (try clear hk); (try clear hi)))
              go_ret
              exact ⟨by first | rfl | exact retNe _ | (simp [errW_none, errW_some] <;> rfl) | (simp [*, errW_none, errW_some] <;> rfl), by repeat (first | (with_reducible first | exact HB.out | apply below_alloc | apply pw_below_drewN | apply below_drew1) | exact HB.out)⟩
          · rw [if_neg c12] at H
            have c12b0 : (t247 == 0) = false := beq_eq_false_iff_ne.mpr c12
            have c12b1 : (t247 != 0) = true := bne_iff_ne.mpr c12
            obtain rfl := Option.some.inj H
            go_enter Tryz.func8, Tryz.ntmps8
            go_wp2_with (first | ((with_reducible refine gate_callee (f := 9) rfl ?_); refine goesL_ (some 13) rfl rfl Tryz.func9 (by kernel_rfl) rfl #[] rfl (by (try simp only [List.map_toArray, List.map_cons, List.map_nil]); first | done | rfl | (simp only [List.length_drop, List.length_take]; rfl)) ?_; (with_reducible refine (incipitlaw09_awake.calls k  true _ ?side1 A2.out).mono ?_); (case side1 => exact Laid.go hLd (by repeat (first | (with_reducible first | exact HB.out | apply below_alloc | apply pw_below_drewN | apply below_drew1) | exact HB.out))); rintro e w43 ⟨rfl, hb⟩; refine ⟨_, rfl, ?_⟩; have n0_ := Aside0.mk (below_step (by repeat (first | (with_reducible first | exact HB.out | apply below_alloc | apply pw_below_drewN | apply below_drew1) | exact HB.out)) hb); clear HB; have HB := n0_; clear n0_; (try clear hb); (try clear hb2); (try clear hk); (try clear hi)) | ((with_reducible refine gate_callee (f := 10) rfl ?_); refine goesL_ (some 21) rfl rfl Tryz.func10 (by kernel_rfl) rfl #[.string ((⟨#[120]⟩ : ByteArray) ++ a0)] rfl (by (try simp only [List.map_toArray, List.map_cons, List.map_nil]); first | done | rfl | (simp only [List.length_drop, List.length_take]; rfl)) ?_; (with_reducible refine (link_Label.calls ((⟨#[120]⟩ : ByteArray) ++ a0) t244 t245 _ A6.out).mono ?_); rintro e w44 ⟨rfl, hb⟩; refine ⟨_, rfl, ?_⟩; have n0_ := Aside0.mk (below_step (by repeat (first | (with_reducible first | exact HB.out | apply below_alloc | apply pw_below_drewN | apply below_drew1) | exact HB.out)) hb); clear HB; have HB := n0_; clear n0_; (try clear hb); (try clear hb2); (try clear hk); (try clear hi)) | ((with_reducible refine gate_callee (f := 14) rfl ?_); refine goesL_ (some 27) rfl rfl Tryz.func14 (by kernel_rfl) rfl #[.string ((⟨#[120]⟩ : ByteArray) ++ a0)] rfl (by (try simp only [List.map_toArray, List.map_cons, List.map_nil]); first | done | rfl | (simp only [List.length_drop, List.length_take]; rfl)) ?_; (with_reducible refine (link_Title.calls ((⟨#[120]⟩ : ByteArray) ++ a0) t246 t247 _ ?side1 A7.out).mono ?_); (case side1 => exact Laid.go hLd (by repeat (first | (with_reducible first | exact HB.out | apply below_alloc | apply pw_below_drewN | apply below_drew1) | exact HB.out))); rintro e w45 ⟨rfl, hb⟩; refine ⟨_, rfl, ?_⟩; have n0_ := Aside0.mk (below_step (by repeat (first | (with_reducible first | exact HB.out | apply below_alloc | apply pw_below_drewN | apply below_drew1) | exact HB.out)) hb); clear HB; have HB := n0_; clear n0_; (try clear hb); (try clear hb2); (try clear hk); (try clear hi)) | ((with_reducible refine gate_callee (f := 16) rfl ?_); refine goesL_ (some 33) rfl rfl Tryz.func16 (by kernel_rfl) rfl #[.string ((⟨#[120]⟩ : ByteArray) ++ a0)] rfl (by (try simp only [List.map_toArray, List.map_cons, List.map_nil]); first | done | rfl | (simp only [List.length_drop, List.length_take]; rfl)) ?_; (with_reducible refine (link_Tail.calls k ((⟨#[120]⟩ : ByteArray) ++ a0) t248 t249 t250 _ ?side1 A8.out).mono ?_); (case side1 => exact Laid.go hLd (by repeat (first | (with_reducible first | exact HB.out | apply below_alloc | apply pw_below_drewN | apply below_drew1) | exact HB.out))); rintro e w46 ⟨rfl, hb⟩; refine ⟨_, rfl, ?_⟩; have n0_ := Aside0.mk (below_step (by repeat (first | (with_reducible first | exact HB.out | apply below_alloc | apply pw_below_drewN | apply below_drew1) | exact HB.out)) hb); clear HB; have HB := n0_; clear n0_; (try clear hb); (try clear hb2); (try clear hk); (try clear hi)) | ((with_reducible refine gate_callee (f := 14) rfl ?_); refine goesL_ (some 38) rfl rfl Tryz.func14 (by kernel_rfl) rfl #[.string (⟨#[]⟩ : ByteArray)] rfl (by (try simp only [List.map_toArray, List.map_cons, List.map_nil]); first | done | rfl | (simp only [List.length_drop, List.length_take]; rfl)) ?_; (with_reducible refine (link_Title.calls (⟨#[]⟩ : ByteArray) t251 t252 _ ?side1 A9.out).mono ?_); (case side1 => exact Laid.go hLd (by repeat (first | (with_reducible first | exact HB.out | apply below_alloc | apply pw_below_drewN | apply below_drew1) | exact HB.out))); rintro e w47 ⟨rfl, hb⟩; refine ⟨_, rfl, ?_⟩; have n0_ := Aside0.mk (below_step (by repeat (first | (with_reducible first | exact HB.out | apply below_alloc | apply pw_below_drewN | apply below_drew1) | exact HB.out)) hb); clear HB; have HB := n0_; clear n0_; (try clear hb); (try clear hb2); (try clear hk); (try clear hi)))
            go_ret
            exact ⟨by first | rfl | exact retNe _ | (simp [errW_none, errW_some] <;> rfl) | (simp [*, errW_none, errW_some] <;> rfl), by repeat (first | (with_reducible first | exact HB.out | apply below_alloc | apply pw_below_drewN | apply below_drew1) | exact HB.out)⟩
        · rw [if_neg c11] at H
          have c11b0 : (t245 == 0) = false := beq_eq_false_iff_ne.mpr c11
          have c11b1 : (t245 != 0) = true := bne_iff_ne.mpr c11
          obtain rfl := Option.some.inj H
          go_enter Tryz.func8, Tryz.ntmps8
          go_wp2_with (first | ((with_reducible refine gate_callee (f := 9) rfl ?_); refine goesL_ (some 13) rfl rfl Tryz.func9 (by kernel_rfl) rfl #[] rfl (by (try simp only [List.map_toArray, List.map_cons, List.map_nil]); first | done | rfl | (simp only [List.length_drop, List.length_take]; rfl)) ?_; (with_reducible refine (incipitlaw09_awake.calls k  true _ ?side1 A2.out).mono ?_); (case side1 => exact Laid.go hLd (by repeat (first | (with_reducible first | exact HB.out | apply below_alloc | apply pw_below_drewN | apply below_drew1) | exact HB.out))); rintro e w48 ⟨rfl, hb⟩; refine ⟨_, rfl, ?_⟩; have n0_ := Aside0.mk (below_step (by repeat (first | (with_reducible first | exact HB.out | apply below_alloc | apply pw_below_drewN | apply below_drew1) | exact HB.out)) hb); clear HB; have HB := n0_; clear n0_; (try clear hb); (try clear hb2); (try clear hk); (try clear hi)) | ((with_reducible refine gate_callee (f := 10) rfl ?_); refine goesL_ (some 21) rfl rfl Tryz.func10 (by kernel_rfl) rfl #[.string ((⟨#[120]⟩ : ByteArray) ++ a0)] rfl (by (try simp only [List.map_toArray, List.map_cons, List.map_nil]); first | done | rfl | (simp only [List.length_drop, List.length_take]; rfl)) ?_; (with_reducible refine (link_Label.calls ((⟨#[120]⟩ : ByteArray) ++ a0) t244 t245 _ A6.out).mono ?_); rintro e w49 ⟨rfl, hb⟩; refine ⟨_, rfl, ?_⟩; have n0_ := Aside0.mk (below_step (by repeat (first | (with_reducible first | exact HB.out | apply below_alloc | apply pw_below_drewN | apply below_drew1) | exact HB.out)) hb); clear HB; have HB := n0_; clear n0_; (try clear hb); (try clear hb2); (try clear hk); (try clear hi)) | ((with_reducible refine gate_callee (f := 14) rfl ?_); refine goesL_ (some 27) rfl rfl Tryz.func14 (by kernel_rfl) rfl #[.string ((⟨#[120]⟩ : ByteArray) ++ a0)] rfl (by (try simp only [List.map_toArray, List.map_cons, List.map_nil]); first | done | rfl | (simp only [List.length_drop, List.length_take]; rfl)) ?_; (with_reducible refine (link_Title.calls ((⟨#[120]⟩ : ByteArray) ++ a0) t246 t247 _ ?side1 A7.out).mono ?_); (case side1 => exact Laid.go hLd (by repeat (first | (with_reducible first | exact HB.out | apply below_alloc | apply pw_below_drewN | apply below_drew1) | exact HB.out))); rintro e w50 ⟨rfl, hb⟩; refine ⟨_, rfl, ?_⟩; have n0_ := Aside0.mk (below_step (by repeat (first | (with_reducible first | exact HB.out | apply below_alloc | apply pw_below_drewN | apply below_drew1) | exact HB.out)) hb); clear HB; have HB := n0_; clear n0_; (try clear hb); (try clear hb2); (try clear hk); (try clear hi)) | ((with_reducible refine gate_callee (f := 16) rfl ?_); refine goesL_ (some 33) rfl rfl Tryz.func16 (by kernel_rfl) rfl #[.string ((⟨#[120]⟩ : ByteArray) ++ a0)] rfl (by (try simp only [List.map_toArray, List.map_cons, List.map_nil]); first | done | rfl | (simp only [List.length_drop, List.length_take]; rfl)) ?_; (with_reducible refine (link_Tail.calls k ((⟨#[120]⟩ : ByteArray) ++ a0) t248 t249 t250 _ ?side1 A8.out).mono ?_); (case side1 => exact Laid.go hLd (by repeat (first | (with_reducible first | exact HB.out | apply below_alloc | apply pw_below_drewN | apply below_drew1) | exact HB.out))); rintro e w51 ⟨rfl, hb⟩; refine ⟨_, rfl, ?_⟩; have n0_ := Aside0.mk (below_step (by repeat (first | (with_reducible first | exact HB.out | apply below_alloc | apply pw_below_drewN | apply below_drew1) | exact HB.out)) hb); clear HB; have HB := n0_; clear n0_; (try clear hb); (try clear hb2); (try clear hk); (try clear hi)) | ((with_reducible refine gate_callee (f := 14) rfl ?_); refine goesL_ (some 38) rfl rfl Tryz.func14 (by kernel_rfl) rfl #[.string (⟨#[]⟩ : ByteArray)] rfl (by (try simp only [List.map_toArray, List.map_cons, List.map_nil]); first | done | rfl | (simp only [List.length_drop, List.length_take]; rfl)) ?_; (with_reducible refine (link_Title.calls (⟨#[]⟩ : ByteArray) t251 t252 _ ?side1 A9.out).mono ?_); (case side1 => exact Laid.go hLd (by repeat (first | (with_reducible first | exact HB.out | apply below_alloc | apply pw_below_drewN | apply below_drew1) | exact HB.out))); rintro e w52 ⟨rfl, hb⟩; refine ⟨_, rfl, ?_⟩; have n0_ := Aside0.mk (below_step (by repeat (first | (with_reducible first | exact HB.out | apply below_alloc | apply pw_below_drewN | apply below_drew1) | exact HB.out)) hb); clear HB; have HB := n0_; clear n0_; (try clear hb); (try clear hb2); (try clear hk); (try clear hi)))
          go_ret
          exact ⟨by first | rfl | exact retNe _ | (simp [errW_none, errW_some] <;> rfl) | (simp [*, errW_none, errW_some] <;> rfl), by repeat (first | (with_reducible first | exact HB.out | apply below_alloc | apply pw_below_drewN | apply below_drew1) | exact HB.out)⟩
      · replace c10 := Bool.eq_false_iff.mpr c10
        subst c10
        have H1 : (some false) = some r := by rw [if_neg (show ¬ (false = true) by decide)] at H; exact H
        clear H
        have H := H1
        clear H1
        obtain rfl := Option.some.inj H
        go_enter Tryz.func8, Tryz.ntmps8
        go_wp2_with (first | ((with_reducible refine gate_callee (f := 9) rfl ?_); refine goesL_ (some 13) rfl rfl Tryz.func9 (by kernel_rfl) rfl #[] rfl (by (try simp only [List.map_toArray, List.map_cons, List.map_nil]); first | done | rfl | (simp only [List.length_drop, List.length_take]; rfl)) ?_; (with_reducible refine (incipitlaw09_awake.calls k  false _ ?side1 A2.out).mono ?_); (case side1 => exact Laid.go hLd (by repeat (first | (with_reducible first | exact HB.out | apply below_alloc | apply pw_below_drewN | apply below_drew1) | exact HB.out))); rintro e w53 ⟨rfl, hb⟩; refine ⟨_, rfl, ?_⟩; have n0_ := Aside0.mk (below_step (by repeat (first | (with_reducible first | exact HB.out | apply below_alloc | apply pw_below_drewN | apply below_drew1) | exact HB.out)) hb); clear HB; have HB := n0_; clear n0_; (try clear hb); (try clear hb2); (try clear hk); (try clear hi)) | ((with_reducible refine gate_callee (f := 10) rfl ?_); refine goesL_ (some 21) rfl rfl Tryz.func10 (by kernel_rfl) rfl #[.string ((⟨#[120]⟩ : ByteArray) ++ a0)] rfl (by (try simp only [List.map_toArray, List.map_cons, List.map_nil]); first | done | rfl | (simp only [List.length_drop, List.length_take]; rfl)) ?_; (with_reducible refine (link_Label.calls ((⟨#[120]⟩ : ByteArray) ++ a0) t244 t245 _ A6.out).mono ?_); rintro e w54 ⟨rfl, hb⟩; refine ⟨_, rfl, ?_⟩; have n0_ := Aside0.mk (below_step (by repeat (first | (with_reducible first | exact HB.out | apply below_alloc | apply pw_below_drewN | apply below_drew1) | exact HB.out)) hb); clear HB; have HB := n0_; clear n0_; (try clear hb); (try clear hb2); (try clear hk); (try clear hi)) | ((with_reducible refine gate_callee (f := 14) rfl ?_); refine goesL_ (some 27) rfl rfl Tryz.func14 (by kernel_rfl) rfl #[.string ((⟨#[120]⟩ : ByteArray) ++ a0)] rfl (by (try simp only [List.map_toArray, List.map_cons, List.map_nil]); first | done | rfl | (simp only [List.length_drop, List.length_take]; rfl)) ?_; (with_reducible refine (link_Title.calls ((⟨#[120]⟩ : ByteArray) ++ a0) t246 t247 _ ?side1 A7.out).mono ?_); (case side1 => exact Laid.go hLd (by repeat (first | (with_reducible first | exact HB.out | apply below_alloc | apply pw_below_drewN | apply below_drew1) | exact HB.out))); rintro e w55 ⟨rfl, hb⟩; refine ⟨_, rfl, ?_⟩; have n0_ := Aside0.mk (below_step (by repeat (first | (with_reducible first | exact HB.out | apply below_alloc | apply pw_below_drewN | apply below_drew1) | exact HB.out)) hb); clear HB; have HB := n0_; clear n0_; (try clear hb); (try clear hb2); (try clear hk); (try clear hi)) | ((with_reducible refine gate_callee (f := 16) rfl ?_); refine goesL_ (some 33) rfl rfl Tryz.func16 (by kernel_rfl) rfl #[.string ((⟨#[120]⟩ : ByteArray) ++ a0)] rfl (by (try simp only [List.map_toArray, List.map_cons, List.map_nil]); first | done | rfl | (simp only [List.length_drop, List.length_take]; rfl)) ?_; (with_reducible refine (link_Tail.calls k ((⟨#[120]⟩ : ByteArray) ++ a0) t248 t249 t250 _ ?side1 A8.out).mono ?_); (case side1 => exact Laid.go hLd (by repeat (first | (with_reducible first | exact HB.out | apply below_alloc | apply pw_below_drewN | apply below_drew1) | exact HB.out))); rintro e w56 ⟨rfl, hb⟩; refine ⟨_, rfl, ?_⟩; have n0_ := Aside0.mk (below_step (by repeat (first | (with_reducible first | exact HB.out | apply below_alloc | apply pw_below_drewN | apply below_drew1) | exact HB.out)) hb); clear HB; have HB := n0_; clear n0_; (try clear hb); (try clear hb2); (try clear hk); (try clear hi)) | ((with_reducible refine gate_callee (f := 14) rfl ?_); refine goesL_ (some 38) rfl rfl Tryz.func14 (by kernel_rfl) rfl #[.string (⟨#[]⟩ : ByteArray)] rfl (by (try simp only [List.map_toArray, List.map_cons, List.map_nil]); first | done | rfl | (simp only [List.length_drop, List.length_take]; rfl)) ?_; (with_reducible refine (link_Title.calls (⟨#[]⟩ : ByteArray) t251 t252 _ ?side1 A9.out).mono ?_); (case side1 => exact Laid.go hLd (by repeat (first | (with_reducible first | exact HB.out | apply below_alloc | apply pw_below_drewN | apply below_drew1) | exact HB.out))); rintro e w57 ⟨rfl, hb⟩; refine ⟨_, rfl, ?_⟩; have n0_ := Aside0.mk (below_step (by repeat (first | (with_reducible first | exact HB.out | apply below_alloc | apply pw_below_drewN | apply below_drew1) | exact HB.out)) hb); clear HB; have HB := n0_; clear n0_; (try clear hb); (try clear hb2); (try clear hk); (try clear hi)))
        go_ret
        exact ⟨by first | rfl | exact retNe _ | (simp [errW_none, errW_some] <;> rfl) | (simp [*, errW_none, errW_some] <;> rfl), by repeat (first | (with_reducible first | exact HB.out | apply below_alloc | apply pw_below_drewN | apply below_drew1) | exact HB.out)⟩
    · rw [if_neg c5] at H
      exact absurd H (by simp)

end Go.Proofs.YtjobchgncdgfaaaGreatDoor.PA

namespace Go.Proofs.YtjobchgncdgfaaaGreatDoor.Pure
open Go.RowKit Go.Proofs.YtjobchgncdgfaaaGreatDoorW.PrintWords Go.Proofs.YtjobchgncdgfaaaGreatDoorW.PrintMore Go.Proofs.YtjobchgncdgfaaaGreatDoor.Pl Go.Proofs.YtjobchgncdgfaaaGreatDoor.PA

theorem labels_end (s m : List UInt8) (hs : s.length ≤ 900) (hm : m.length ≤ 300) (h : ∀ x ∈ s, x ≠ 91 ∧ x ≠ 93 ∧ x ≠ 92) (k : Nat) :
    incipitlaw09_LinkLabels.l0 (k + 1) (B s) (B m) true (s.all wsp) (s.length : Int) = some true := by
  have hp : ∀ x ∈ s, x ≠ 92 ∧ pLab x = false := fun x hx => ⟨(h x hx).2.2, (lab_plain x).2 ⟨(h x hx).1, (h x hx).2.1⟩⟩
  have x1 : (((⟨#[91]⟩ : ByteArray) ++ B s) ++ (⟨#[93]⟩ : ByteArray)) ++ B m = B (91 :: (s ++ 93 :: m)) := by
    rw [show (⟨#[91]⟩ : ByteArray) = B [91] from rfl, show (⟨#[93]⟩ : ByteArray) = B [93] from rfl, B_append, B_append, B_append]
    simp
  have x2 : (((⟨#[91]⟩ : ByteArray) ++ B s) ++ (⟨#[91, 93]⟩ : ByteArray)) ++ B m = B (91 :: (s ++ 91 :: 93 :: m)) := by
    rw [show (⟨#[91]⟩ : ByteArray) = B [91] from rfl, show (⟨#[91, 93]⟩ : ByteArray) = B [91, 93] from rfl, B_append, B_append, B_append]
    simp
  have x3 : (((⟨#[91, 120]⟩ : ByteArray) ++ B s) ++ (⟨#[92, 91, 93]⟩ : ByteArray)) ++ B m = B (91 :: ((120 :: (s ++ [92, 91])) ++ 93 :: m)) := by
    rw [show (⟨#[91, 120]⟩ : ByteArray) = B [91, 120] from rfl, show (⟨#[92, 91, 93]⟩ : ByteArray) = B [92, 91, 93] from rfl, B_append, B_append, B_append]
    simp
  have x4 : (((⟨#[120]⟩ : ByteArray) ++ B s) ++ (⟨#[92, 91]⟩ : ByteArray)) = B (120 :: (s ++ [92, 91])) := by
    rw [show (⟨#[120]⟩ : ByteArray) = B [120] from rfl, show (⟨#[92, 91]⟩ : ByteArray) = B [92, 91] from rfl, B_append, B_append]
    simp
  have e1 : eachL pLab (s ++ 93 :: m) = s.length := by rw [each_plain pLab s _ hp, each_stop pLab pLab_92 93 m (by decide), Nat.add_zero]
  have e2 : eachL pLab (s ++ 91 :: 93 :: m) = s.length := by rw [each_plain pLab s _ hp, each_stop pLab pLab_92 91 _ (by decide), Nat.add_zero]
  have e3 : eachL pLab ((120 :: (s ++ [92, 91])) ++ 93 :: m) = (120 :: (s ++ [92, 91])).length := by
    have : (120 :: (s ++ [92, 91])) ++ 93 :: m = (120 :: s) ++ (92 :: 91 :: 93 :: m) := by simp
    rw [this, each_plain pLab (120 :: s) _ (fun x hx => by rcases List.mem_cons.1 hx with rfl | hx; exact ⟨by decide, by decide⟩; exact hp x hx), each_esc pLab 92 91 _ rfl (by decide +kernel), each_stop pLab pLab_92 93 m (by decide)]
    simp
  have l1 := lab_at s m 93 e1
  have l2 := lab_at s (93 :: m) 91 e2
  have l3 := lab_at (120 :: (s ++ [92, 91])) m 93 e3
  have hn3 : (120 :: (s ++ [92, 91])).length = s.length + 3 := by simp
  rw [if_pos (.inl rfl)] at l2
  rw [if_neg (by rintro (e | e | e); cases e; omega; rw [wht_cons, if_neg (by decide)] at e; omega), hn3] at l3
  obtain ⟨r, hr⟩ : ∃ r, lab (91 :: (s ++ 93 :: m)) = r := ⟨_, rfl⟩
  have hz : ∀ r : List UInt8, r.length ≤ 2000 → r.length ≤ 1048576 := fun r hr => by omega
  simp only [incipitlaw09_LinkLabels.l0]
  rw [if_neg (by rw [B_size]; omega), if_pos (by rw [B_size]; omega), if_pos (by rw [show (⟨#[91]⟩ : ByteArray) = B [91] from rfl, B_append, B_size]; simp; omega),
    if_pos (by rw [show (⟨#[91]⟩ : ByteArray) = B [91] from rfl, show (⟨#[93]⟩ : ByteArray) = B [93] from rfl, B_append, B_append, B_size, B_size]; simp; omega), x1, label_f _ (hz _ (by simp; omega)), Option.bind_some,
    if_pos (by rw [show (⟨#[91]⟩ : ByteArray) = B [91] from rfl, B_append, B_size]; simp; omega),
    if_pos (by rw [show (⟨#[91]⟩ : ByteArray) = B [91] from rfl, show (⟨#[91, 93]⟩ : ByteArray) = B [91, 93] from rfl, B_append, B_append, B_size, B_size]; simp; omega), x2, label_f _ (hz _ (by simp; omega)), Option.bind_some,
    if_pos (by rw [B_size]; omega), if_pos (by rw [show (⟨#[91, 120]⟩ : ByteArray) = B [91, 120] from rfl, B_append, B_size]; simp; omega),
    if_pos (by rw [show (⟨#[91, 120]⟩ : ByteArray) = B [91, 120] from rfl, show (⟨#[92, 91, 93]⟩ : ByteArray) = B [92, 91, 93] from rfl, B_append, B_append, B_size, B_size]; simp; omega), x3, label_f _ (hz _ (by simp; omega)), Option.bind_some, hr, l2, l3]
  simp only
  have h5 : wrap64 (((B s).size : Int) + 5) = ((s.length + 3 + 2 : Nat) : Int) := by rw [B_size, w64 (by omega) (by omega)]; omega
  have h2 : wrap64 (((B s).size : Int) + 2) = ((s.length + 2 : Nat) : Int) := by rw [B_size, w64 (by omega) (by omega)]; omega
  cases hw : s.all wsp with
  | true =>
    rw [if_pos (.inr (.inr ((wht_all s).2 hw))), hr] at l1
    subst l1
    simp only
    rw [if_pos (by first | trivial | rfl), if_pos (by first | trivial | rfl), if_pos (by rfl), if_pos (by rfl), h5, if_pos (by first | trivial | rfl), B_toList]
    rfl
  | false =>
    rw [if_neg (by rintro (e | e | e); exact absurd e (by decide); omega; rw [(wht_all s).1 e] at hw; cases hw), hr] at l1
    subst l1
    simp only
    rw [if_neg (by decide), if_pos (by first | trivial | rfl), if_pos (by first | trivial | rfl), h2, if_pos (by first | trivial | rfl), if_pos (by rfl), if_pos (by rw [show (⟨#[120]⟩ : ByteArray) = B [120] from rfl, B_append, B_size]; simp; omega), x4, if_pos (by first | trivial | rfl), h5, beq_self_eq_true]
theorem labels_l (s m : List UInt8) (hs : s.length ≤ 900) (hm : m.length ≤ 300) : ∀ (d i : Nat), i + d = s.length → (∀ x ∈ s.take i, x ≠ 91 ∧ x ≠ 93 ∧ x ≠ 92) →
    Ev (fun k => incipitlaw09_LinkLabels.l0 k (B s) (B m) true ((s.take i).all wsp) (i : Int)) true := by
  intro d
  induction d with
  | zero =>
    intro i hi h
    obtain rfl : i = s.length := by omega
    rw [List.take_length] at h ⊢
    exact Ev.step (f := fun _ => some true) (fun k => labels_end s m hs hm h k) (Ev.now _)
  | succ d ih =>
    intro i hi h
    have hil : i < s.length := by omega
    have hb : bt (B s) (i : Int) = ((s[i]).toNat : Int) := B_bt s i hil
    have ht : s.take (i + 1) = s.take i ++ [s[i]] := (List.take_append_getElem hil).symm
    have c91 : (((s[i]).toNat : Int) = 91) ↔ s[i] = 91 := u8_eq _ 91 (by omega)
    have c93 : (((s[i]).toNat : Int) = 93) ↔ s[i] = 93 := u8_eq _ 93 (by omega)
    have c92 : (((s[i]).toNat : Int) = 92) ↔ s[i] = 92 := u8_eq _ 92 (by omega)
    have c32 : (((s[i]).toNat : Int) = 32) ↔ s[i] = 32 := u8_eq _ 32 (by omega)
    have c9 : (((s[i]).toNat : Int) = 9) ↔ s[i] = 9 := u8_eq _ 9 (by omega)
    have c10 : (((s[i]).toNat : Int) = 10) ↔ s[i] = 10 := u8_eq _ 10 (by omega)
    have hw : wrap64 ((i : Int) + 1) = ((i + 1 : Nat) : Int) := w64 (by omega) (by omega)
    obtain ⟨x, hx⟩ : ∃ x, s[i] = x := ⟨_, rfl⟩
    rw [hx] at hb ht c91 c93 c92 c32 c9 c10
    have hstep : ∀ k, incipitlaw09_LinkLabels.l0 (k + 1) (B s) (B m) true ((s.take i).all wsp) (i : Int) = if x = 91 ∨ x = 93 ∨ x = 92 then some true else incipitlaw09_LinkLabels.l0 k (B s) (B m) true ((s.take (i + 1)).all wsp) ((i + 1 : Nat) : Int) := by
      intro k
      simp only [incipitlaw09_LinkLabels.l0]
      rw [if_pos (by rw [B_size]; omega), if_pos (by omega), hb, hw]
      by_cases h1 : x = 91
      · rw [if_pos (c91.2 h1), if_pos (.inl h1)]
      · rw [if_neg (fun e => h1 (c91.1 e))]
        by_cases h2 : x = 93
        · rw [if_pos (c93.2 h2), if_pos (.inr (.inl h2))]
        · rw [if_neg (fun e => h2 (c93.1 e))]
          by_cases h3 : x = 92
          · rw [if_pos (c92.2 h3), if_pos (.inr (.inr h3))]
          · rw [if_neg (fun e => h3 (c92.1 e)), if_neg (show ¬ (x = 91 ∨ x = 93 ∨ x = 92) by rintro (e | e | e); exact h1 e; exact h2 e; exact h3 e), ht, List.all_append, show [x].all wsp = wsp x by simp]
            cases ha : (s.take i).all wsp with
            | false => rw [if_neg (by decide), Bool.false_and]
            | true =>
              rw [if_pos (by first | trivial | rfl), Bool.true_and]
              by_cases h4 : x = 32
              · rw [if_pos (c32.2 h4), show wsp x = true by rw [h4]; decide]
              · rw [if_neg (fun e => h4 (c32.1 e))]
                by_cases h5 : x = 9
                · rw [if_pos (c9.2 h5), show wsp x = true by rw [h5]; decide]
                · rw [if_neg (fun e => h5 (c9.1 e))]
                  have : (((x.toNat : Nat) : Int) == 10) = wsp x := by
                    unfold wsp
                    rw [decide_eq_false h4, decide_eq_false h5, Bool.false_or, Bool.false_or]
                    by_cases h6 : x = 10
                    · rw [decide_eq_true h6, beq_iff_eq]; exact c10.2 h6
                    · rw [decide_eq_false h6, beq_eq_false_iff_ne]; exact fun e => h6 (c10.1 e)
                  rw [this]
    by_cases hx2 : x = 91 ∨ x = 93 ∨ x = 92
    · exact Ev.step (f := fun _ => some true) (fun k => by rw [hstep, if_pos hx2]) (Ev.now _)
    · refine Ev.step (fun k => by rw [hstep, if_neg hx2]) (ih (i + 1) (by omega) ?_)
      intro y hy
      rw [ht] at hy
      rcases List.mem_append.1 hy with hy | hy
      · exact h y hy
      · rw [List.mem_singleton] at hy
        subst hy
        exact ⟨fun e => hx2 (.inl e), fun e => hx2 (.inr (.inl e)), fun e => hx2 (.inr (.inr e))⟩
theorem LinkLabels : ∀ (a0 : ByteArray) (a1 : ByteArray), a0.size ≤ 140737488351232 → a1.size ≤ 140737488351232 → ∃ k, PA.incipitlaw09_LinkLabels.f k a0 a1 = some true := by
  intro a0 a1 _ _
  obtain ⟨s, rfl⟩ : ∃ s, a0 = B s := ⟨_, (B_eta a0).symm⟩
  obtain ⟨m, rfl⟩ : ∃ s, a1 = B s := ⟨_, (B_eta a1).symm⟩
  apply Ev.rounds
  unfold incipitlaw09_LinkLabels.f
  refine Ev.bind awake_ev ?_
  by_cases h : ((B s).size : Int) > 900
  · refine Ev.congr (fun k => if_pos h) (Ev.step (f := fun _ => some true) (fun k => ?_) (Ev.now _))
    simp only [incipitlaw09_LinkLabels.j0]
    exact if_pos trivial
  · refine Ev.congr (fun k => if_neg h) ?_
    by_cases h2 : ((B m).size : Int) > 300
    · refine Ev.step (f := fun _ => some true) (fun k => ?_) (Ev.now _)
      simp only [incipitlaw09_LinkLabels.j0]
      rw [decide_eq_true h2, if_pos rfl]
    · refine Ev.step (fun k => ?_) (labels_l s m (by rw [B_size] at h; omega) (by rw [B_size] at h2; omega) s.length 0 (Nat.zero_add _) (by simp))
      simp only [incipitlaw09_LinkLabels.j0]
      rw [decide_eq_false h2, if_neg (by decide)]
      rfl
end Go.Proofs.YtjobchgncdgfaaaGreatDoor.Pure

namespace Go.Proofs.YtjobchgncdgfaaaGreatDoor.linkLabels
open Go.ChangeShapes Go.WideShapes Go.ChangeAt Go.RowKit Go.Proofs.YtjobchgncdgfaaaGreatDoorW.PrintWords Go.Proofs.YtjobchgncdgfaaaGreatDoor.RowU8
open Go.ChangeMaps (open_string shut_string)
set_option linter.unusedVariables false
set_option maxRecDepth 100000 in
theorem contract (H : Type) (enc : TypeId × Value → H) (W : World) (base : Nat) (args : Array Value) (ds gs : List (DataW H)) (before : List MemPlace)
    (hval0 : ∀ (j : Nat) t v, Tryz.f7.params[j]? = some t → args[j]? = some v → Value.okWide Tryz.prog W .any base t v)
    (hW : DataW.Whole enc Tryz.prog Tryz.f7.params.toList Rows.linkLabelsSpec.vars false W args.toList ds gs before) (hsz0 : (DataW.weightsEach Tryz.prog (Tryz.f7.params.toList ++ (OpenSpec.ofChange Rows.linkLabelsSpec).bare.plain.varTypes Tryz.prog) (ds ++ gs)).all (· ≤ reachBytes) = true) (hSh : W.ShapedOpen Tryz.prog) :
    Calls Tryz.prog 7 args W fun e W' => ∃ v, e = .returned v ∧ Rows.linkLabelsSpec.post enc Tryz.prog Tryz.f7 false true false false W args v W' := by
  have hsz : (DataW.weightsEach Tryz.prog (Tryz.f7.params.toList ++ Rows.linkLabelsSpec.plain.varTypes Tryz.prog) (ds ++ gs)).all (· ≤ reachBytes) = true := hsz0
  have hval : ∀ (j : Nat) t v, Tryz.f7.params[j]? = some t → args[j]? = some v → Value.okWide Tryz.prog W .any base t v := hval0
  have hW' := hW
  obtain ⟨p, q, hA0, hV, rfl, hfz, hnd⟩ := hW
  have hA : DataW.TrodAll enc Tryz.prog W 0 (fun _ => true) true Tryz.f7.params.toList args.toList ds p := hA0
  rw [Tryz.params7] at hA hval hsz
  obtain ⟨v0, vs0, d0, ds0, p0, q0, hargs, rfl, rfl, h0, r0⟩ := trodAll_cons hA
  obtain ⟨v1, vs1, d1, ds1, p1, q1, rfl, rfl, rfl, h1, r1⟩ := trodAll_cons r0
  obtain ⟨rfl, rfl, rfl⟩ := trodAll_nil r1
  obtain rfl : args = #[v0, v1] := by cases args; simp_all
  obtain ⟨rfl, rfl⟩ := trodVars_none hV
  obtain ⟨a0, rfl, rfl, rfl, y0⟩ := open_string Tryz.underlying9 (hval 0 9 v0 rfl rfl) h0
  have w0 : a0.size ≤ 140737488351232 := by
    have z := sized_string hsz (j := 0) (t := 9) rfl rfl
    rw [Array.length_toList] at z
    exact z
  obtain ⟨a1, rfl, rfl, rfl, y1⟩ := open_string Tryz.underlying9 (hval 1 9 v1 rfl rfl) h1
  have w1 : a1.size ≤ 140737488351232 := by
    have z := sized_string hsz (j := 1) (t := 9) rfl rfl
    rw [Array.length_toList] at z
    exact z
  clear hA0 hval0 hsz0 hsz
  obtain ⟨k, hp⟩ := Pure.LinkLabels a0 a1 w0 w1
  refine (PA.incipitlaw09_LinkLabels.calls k a0 a1 true W (laidOf hSh) hp).mono ?_
  rintro e W' ⟨rfl, bel⟩
  exact ⟨_, rfl, _, _, _, [], _, [], hW', trodAll_mk1 (shut_bool Tryz.underlying4 _), (trodAll_cons_mk (shut_string Tryz.underlying9 y0) (trodAll_cons_mk (shut_string Tryz.underlying9 y1) trodAll_mk0)), rfl, bel.frame _, fun h => by cases h⟩
theorem laid_met (os : Os) : laidMet Tryz.prog Rows.linkLabelsRow.laid ((laidWorld os).forCall (fun _ _ => 0) ⟨#[], #[.string ByteArray.empty, .string ByteArray.empty], []⟩).memory :=
  laidMet_of_run' 8 (by kernel_rfl) (by kernel_rfl)
theorem reads (os : Os) {H : Type} (enc : TypeId × Value → H) : ∃ places, DataW.whole enc Tryz.prog ((laidWorld os).forCall (fun _ _ => 0) ⟨#[], #[.string ByteArray.empty, .string ByteArray.empty], []⟩).memory Tryz.f7.params.toList Rows.linkLabelsSpec.vars false (#[.string ByteArray.empty, .string ByteArray.empty] : Array Value).toList 8 = some ([.lit (.string []), .lit (.string [])], [], places) :=
  ⟨[], by kernel_rfl⟩
set_option maxRecDepth 100000 in
theorem lifted (os : Os) (started : os.Started) (H : Type) (enc : TypeId × Value → H) (F : Stop.Interp) :
    ReturnsInHanded {} Tryz.checked os 7 .any ((OpenSpec.ofChange Rows.linkLabelsSpec).preRow enc Tryz.prog Tryz.f7 Rows.linkLabelsRow.domain false Rows.linkLabelsRow.laid) (((OpenSpec.ofChange Rows.linkLabelsSpec).at F).post enc Tryz.prog Tryz.f7 false true false false) := by
  obtain ⟨places, hx⟩ := reads os enc
  refine returnsInHanded_of_row (C := Tryz.checked) (s := OpenSpec.ofChange Rows.linkLabelsSpec) own started (by kernel_rfl) Tryz.func7
    (witness_row_atRef (enc := enc) (C := Tryz.checked) false (laidWorld os) #[.string ByteArray.empty, .string ByteArray.empty] (laidWorld_os os) (by kernel_rfl) (by kernel_rfl) (by kernel_rfl)
      (OpenSpec.preRow_of_cond 8 hx (by kernel_rfl) (fun k hk => by cases hk) (by kernel_rfl) (laid_met os))) ?_
  intro W base args ds gs before hval hW _ _ hsz hL hSh _
  exact contract H enc W base args ds gs before hval hW hsz hSh
theorem said : Rows.LinkLabelsSaid :=
  OpenClaim.holds_of_cond 7 Tryz.f7 rfl rfl rfl rfl rfl rfl rfl ⟨rfl, rfl, rfl, rfl, rfl⟩ rfl rfl rfl rfl rfl (by kernel_rfl) Tryz.func7 (by kernel_rfl)
    (of_decide_eq_true (by kernel_rfl)) (by unfold Func.isWrapper; first | (rw [if_pos (by decide +kernel)]; kernel_rfl) | (rw [if_neg (by decide +kernel)]; exact ⟨rfl, rfl⟩))
    (fun os started H enc _ F => by rw [OpenClaim.pre_eq_preRow]; exact lifted os started H enc F)
theorem plain (f : FuncId) (fn : Func) (hf : Tryz.pinned.checked.prog.funcNamed "incipit/incipitlaw09.LinkLabels" = some f) (hfn : Tryz.pinned.checked.prog.funcs[f]? = some fn) :
    true = Tryz.pinned.checked.prog.looks [] ∧ ∀ (j : Nat) t, fn.params[j]? = some t → Tryz.pinned.checked.prog.wantsStandIn t = false := by
  obtain rfl : f = 7 := Option.some.inj ((show Tryz.prog.funcNamed "incipit/incipitlaw09.LinkLabels" = some 7 by kernel_rfl).symm.trans hf) |>.symm
  obtain rfl : fn = Tryz.f7 := (Option.some.inj (Tryz.func7.symm.trans hfn)).symm
  refine ⟨by kernel_rfl, fun j t ht => ?_⟩
  rw [Tryz.params7] at ht
  have hall : ∀ t ∈ (#[9, 9] : Array Nat), Tryz.prog.wantsStandIn t = false := by
    intro t ht
    simp at ht
    subst ht
    exact (show Tryz.prog.wantsStandIn 9 = false by kernel_rfl)
  exact hall t (Array.mem_of_getElem? ht)
theorem card : Rows.LinkLabelsCardSaid :=
  Claim7.holds_tied_plain_at .later [] _ _ _ _ said (fun _ h => by cases h) (by kernel_rfl) (fun _ h => by cases h) linkLabels_row_tie rfl ⟨rfl, rfl⟩ (by kernel_rfl) rfl plain (by kernel_rfl)
end Go.Proofs.YtjobchgncdgfaaaGreatDoor.linkLabels
namespace Go.Proofs.YtjobchgncdgfaaaGreatDoor
/-- The statement, under a short name, for the claim. -/
theorem linkLabels_holds : Rows.LinkLabelsCardSaid := linkLabels.card
end Go.Proofs.YtjobchgncdgfaaaGreatDoor
