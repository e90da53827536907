-- printed by the kit's printer, turned by a program of this session (wip/tools/mkprint.py)
import Derived.Test.YtinpchebcnkckaaGreatDoorPAx0
import Derived.Test.YtinpchebcnkckaaGreatDoorPAx1
import Derived.Test.YtinpchebcnkckaaGreatDoorGLib
import Derived.Test.YtinpchebcnkckaaGreatDoorGMax
import Derived.Test.YtinpchebcnkckaaGreatDoorGBody
import Derived.Test.YtinpchebcnkckaaGreatDoorGRefTab
import Derived.Test.YtinpchebcnkckaaGreatDoorGPunct
import Derived.Test.YtinpchebcnkckaaGreatDoorGHtml
import Derived.Test.YtinpchebcnkckaaGreatDoorGHref
import Derived.Test.YtinpchebcnkckaaGreatDoorGUnesc
namespace Go.Proofs.YtinpchebcnkckaaGreatDoor.PA
open Go.RowKit Go.Proofs.YtinpchebcnkckaaGreatDoorW.PrintWords Go.Proofs.YtinpchebcnkckaaGreatDoorW.PrintLast Go.Proofs.YtinpchebcnkckaaGreatDoorW.PrintMore
attribute [local go_sem] max2_int min2_int max_two min_two max_three min_three max_four min_four   -- for this text's walks alone
set_option linter.unusedVariables false
set_option linter.unusedSimpArgs false

/-! ### incipitlaw05_EscapePlain: function 8 -/
def incipitlaw05_EscapePlain.l0 : Nat → ByteArray → Bool → Int → Option (Bool)
  | 0, _, _, _ => none
  | k + 1, x0, x3, x4 => if x4 < (x0.size : Int) then (if 0 ≤ x4 then (if (bt x0 x4) ≥ 97 then (if (bt x0 x4) ≤ 122 then (incipitlaw05_EscapePlain.l0 k x0 x3 (wrap64 (x4 + 1))) else (if (bt x0 x4) ≥ 65 then (if (bt x0 x4) ≤ 90 then (incipitlaw05_EscapePlain.l0 k x0 x3 (wrap64 (x4 + 1))) else (if (bt x0 x4) ≥ 48 then (if (bt x0 x4) ≤ 57 then (incipitlaw05_EscapePlain.l0 k x0 x3 (wrap64 (x4 + 1))) else (if (bt x0 x4) = 45 then (incipitlaw05_EscapePlain.l0 k x0 x3 (wrap64 (x4 + 1))) else (if (bt x0 x4) = 95 then (incipitlaw05_EscapePlain.l0 k x0 x3 (wrap64 (x4 + 1))) else (if (bt x0 x4) = 46 then (incipitlaw05_EscapePlain.l0 k x0 x3 (wrap64 (x4 + 1))) else (if (bt x0 x4) = 47 then (incipitlaw05_EscapePlain.l0 k x0 x3 (wrap64 (x4 + 1))) else (if ((bt x0 x4) = 58) then (incipitlaw05_EscapePlain.l0 k x0 x3 (wrap64 (x4 + 1))) else (some x3))))))) else (if (bt x0 x4) = 45 then (incipitlaw05_EscapePlain.l0 k x0 x3 (wrap64 (x4 + 1))) else (if (bt x0 x4) = 95 then (incipitlaw05_EscapePlain.l0 k x0 x3 (wrap64 (x4 + 1))) else (if (bt x0 x4) = 46 then (incipitlaw05_EscapePlain.l0 k x0 x3 (wrap64 (x4 + 1))) else (if (bt x0 x4) = 47 then (incipitlaw05_EscapePlain.l0 k x0 x3 (wrap64 (x4 + 1))) else (if ((bt x0 x4) = 58) then (incipitlaw05_EscapePlain.l0 k x0 x3 (wrap64 (x4 + 1))) else (some x3)))))))) else (if (bt x0 x4) ≥ 48 then (if (bt x0 x4) ≤ 57 then (incipitlaw05_EscapePlain.l0 k x0 x3 (wrap64 (x4 + 1))) else (if (bt x0 x4) = 45 then (incipitlaw05_EscapePlain.l0 k x0 x3 (wrap64 (x4 + 1))) else (if (bt x0 x4) = 95 then (incipitlaw05_EscapePlain.l0 k x0 x3 (wrap64 (x4 + 1))) else (if (bt x0 x4) = 46 then (incipitlaw05_EscapePlain.l0 k x0 x3 (wrap64 (x4 + 1))) else (if (bt x0 x4) = 47 then (incipitlaw05_EscapePlain.l0 k x0 x3 (wrap64 (x4 + 1))) else (if ((bt x0 x4) = 58) then (incipitlaw05_EscapePlain.l0 k x0 x3 (wrap64 (x4 + 1))) else (some x3))))))) else (if (bt x0 x4) = 45 then (incipitlaw05_EscapePlain.l0 k x0 x3 (wrap64 (x4 + 1))) else (if (bt x0 x4) = 95 then (incipitlaw05_EscapePlain.l0 k x0 x3 (wrap64 (x4 + 1))) else (if (bt x0 x4) = 46 then (incipitlaw05_EscapePlain.l0 k x0 x3 (wrap64 (x4 + 1))) else (if (bt x0 x4) = 47 then (incipitlaw05_EscapePlain.l0 k x0 x3 (wrap64 (x4 + 1))) else (if ((bt x0 x4) = 58) then (incipitlaw05_EscapePlain.l0 k x0 x3 (wrap64 (x4 + 1))) else (some x3))))))))) else (if (bt x0 x4) ≥ 65 then (if (bt x0 x4) ≤ 90 then (incipitlaw05_EscapePlain.l0 k x0 x3 (wrap64 (x4 + 1))) else (if (bt x0 x4) ≥ 48 then (if (bt x0 x4) ≤ 57 then (incipitlaw05_EscapePlain.l0 k x0 x3 (wrap64 (x4 + 1))) else (if (bt x0 x4) = 45 then (incipitlaw05_EscapePlain.l0 k x0 x3 (wrap64 (x4 + 1))) else (if (bt x0 x4) = 95 then (incipitlaw05_EscapePlain.l0 k x0 x3 (wrap64 (x4 + 1))) else (if (bt x0 x4) = 46 then (incipitlaw05_EscapePlain.l0 k x0 x3 (wrap64 (x4 + 1))) else (if (bt x0 x4) = 47 then (incipitlaw05_EscapePlain.l0 k x0 x3 (wrap64 (x4 + 1))) else (if ((bt x0 x4) = 58) then (incipitlaw05_EscapePlain.l0 k x0 x3 (wrap64 (x4 + 1))) else (some x3))))))) else (if (bt x0 x4) = 45 then (incipitlaw05_EscapePlain.l0 k x0 x3 (wrap64 (x4 + 1))) else (if (bt x0 x4) = 95 then (incipitlaw05_EscapePlain.l0 k x0 x3 (wrap64 (x4 + 1))) else (if (bt x0 x4) = 46 then (incipitlaw05_EscapePlain.l0 k x0 x3 (wrap64 (x4 + 1))) else (if (bt x0 x4) = 47 then (incipitlaw05_EscapePlain.l0 k x0 x3 (wrap64 (x4 + 1))) else (if ((bt x0 x4) = 58) then (incipitlaw05_EscapePlain.l0 k x0 x3 (wrap64 (x4 + 1))) else (some x3)))))))) else (if (bt x0 x4) ≥ 48 then (if (bt x0 x4) ≤ 57 then (incipitlaw05_EscapePlain.l0 k x0 x3 (wrap64 (x4 + 1))) else (if (bt x0 x4) = 45 then (incipitlaw05_EscapePlain.l0 k x0 x3 (wrap64 (x4 + 1))) else (if (bt x0 x4) = 95 then (incipitlaw05_EscapePlain.l0 k x0 x3 (wrap64 (x4 + 1))) else (if (bt x0 x4) = 46 then (incipitlaw05_EscapePlain.l0 k x0 x3 (wrap64 (x4 + 1))) else (if (bt x0 x4) = 47 then (incipitlaw05_EscapePlain.l0 k x0 x3 (wrap64 (x4 + 1))) else (if ((bt x0 x4) = 58) then (incipitlaw05_EscapePlain.l0 k x0 x3 (wrap64 (x4 + 1))) else (some x3))))))) else (if (bt x0 x4) = 45 then (incipitlaw05_EscapePlain.l0 k x0 x3 (wrap64 (x4 + 1))) else (if (bt x0 x4) = 95 then (incipitlaw05_EscapePlain.l0 k x0 x3 (wrap64 (x4 + 1))) else (if (bt x0 x4) = 46 then (incipitlaw05_EscapePlain.l0 k x0 x3 (wrap64 (x4 + 1))) else (if (bt x0 x4) = 47 then (incipitlaw05_EscapePlain.l0 k x0 x3 (wrap64 (x4 + 1))) else (if ((bt x0 x4) = 58) then (incipitlaw05_EscapePlain.l0 k x0 x3 (wrap64 (x4 + 1))) else (some x3))))))))) else (none)) else (if x3 = true then ((escape_Html.f x0).bind fun t156 => (if t156.toList = x0.toList then ((escape_Href.f x0).bind fun t157 => (if t157.toList = x0.toList then ((escape_Unescape.f x0).bind fun t158 => (some (t158.toList == x0.toList))) else (some false))) else (some false))) else (some false))
def incipitlaw05_EscapePlain.f (k : Nat) (a0 : ByteArray) : Option (Bool) := (incipitlaw05_awake.f).bind fun t155 => (if (a0.size : Int) > 1000 then (some t155) else (incipitlaw05_EscapePlain.l0 k a0 t155 0))
theorem incipitlaw05_EscapePlain.mono_l : ∀ k, (∀ y0 y1 y2, LeO (incipitlaw05_EscapePlain.l0 k y0 y1 y2) (incipitlaw05_EscapePlain.l0 (k + 1) y0 y1 y2))
  | 0 => fun _ _ _ r h => by simp [incipitlaw05_EscapePlain.l0] at h
  | k + 1 => by
    have ih0 := incipitlaw05_EscapePlain.mono_l k
    · intro y0 y1 y2
      unfold incipitlaw05_EscapePlain.l0
      repeat' first
      | (with_reducible exact ih0 _ _ _)
      | (with_reducible exact LeO.refl _)
      | (with_reducible exact LeO.none _)
      | (with_reducible refine LeO.ite ?_ ?_)
      | (with_reducible refine LeO.bind ?_ (fun _ => ?_))
      | exact ih0 _ _ _
      | exact LeO.none _
      | refine LeO.ite ?_ ?_
      | refine LeO.bind ?_ (fun _ => ?_)
theorem incipitlaw05_EscapePlain.mono : ∀ a0 k, LeO (incipitlaw05_EscapePlain.f k a0) (incipitlaw05_EscapePlain.f (k + 1) a0) := by
  intro a0 k
  have ih0 := incipitlaw05_EscapePlain.mono_l k
  unfold incipitlaw05_EscapePlain.f
  repeat' first
      | (with_reducible exact ih0 _ _ _)
      | (with_reducible exact LeO.refl _)
      | (with_reducible exact LeO.none _)
      | (with_reducible refine LeO.ite ?_ ?_)
      | (with_reducible refine LeO.bind ?_ (fun _ => ?_))
      | exact ih0 _ _ _
      | exact LeO.none _
      | refine LeO.ite ?_ ?_
      | refine LeO.bind ?_ (fun _ => ?_)
set_option maxHeartbeats 8000000 in
set_option maxRecDepth 100000 in
theorem incipitlaw05_EscapePlain.calls (k : Nat) (a0 : ByteArray) (r : Bool) (w : World) (hLd : Laid w) (h : incipitlaw05_EscapePlain.f k a0 = some r) :
    Calls Tryz.prog 8 #[.string a0] w fun e w' => e = .returned (.bool r) ∧ Below w.heap.size w w' := by
  have HB := Aside0.mk (Below.refl w.heap.size w)
  have H : ((incipitlaw05_awake.f).bind fun t155 => (if (a0.size : Int) > 1000 then (some t155) else (incipitlaw05_EscapePlain.l0 k a0 t155 0))) = some r := h
  clear h
  replace H := Option.bind_eq_some_iff.mp H
  obtain ⟨t155, A20, H⟩ := H
  replace H : (if (a0.size : Int) > 1000 then (some t155) else (incipitlaw05_EscapePlain.l0 k a0 t155 0)) = some r := H
  have A2 := Aside0.mk A20
  clear A20
  by_cases c3 : (a0.size : Int) > 1000
  · rw [if_pos c3] at H
    have c3b0 : decide (1000 < (a0.size : Int)) = true := decide_eq_true c3
    have c3b1 : decide (1000 < a0.size) = true := decide_eq_true (by omega)
    clear c3
    obtain rfl := Option.some.inj H
    go_enter Tryz.func8, Tryz.ntmps8
    go_wp2_with (first | ((with_reducible refine gate_callee (f := 10) rfl ?_); refine goesL_ (some 6) rfl rfl Tryz.func10 (by kernel_rfl) rfl #[] rfl (by (try simp only [List.map_toArray, List.map_cons, List.map_nil]); first | done | rfl | (simp only [List.length_drop, List.length_take]; rfl)) ?_; (with_reducible refine (incipitlaw05_awake.calls  t155 _ ?side1 A2.out).mono ?_); (case side1 => exact Laid.go hLd (by repeat (first | (with_reducible first | exact HB.out | apply below_alloc | apply pw_below_drewN | apply below_drew1) | exact HB.out))); rintro e w4 ⟨rfl, hb⟩; refine ⟨_, rfl, ?_⟩; have n0_ := Aside0.mk (below_step (by repeat (first | (with_reducible first | exact HB.out | apply below_alloc | apply pw_below_drewN | apply below_drew1) | exact HB.out)) hb); clear HB; have HB := n0_; clear n0_; (try clear hb); (try clear hb2); (try clear hk); (try clear hi)))
    go_ret
    exact ⟨by first | rfl | (simp [errW_none, errW_some] <;> rfl) | (simp [*, errW_none, errW_some] <;> rfl), by repeat (first | (with_reducible first | exact HB.out | apply below_alloc | apply pw_below_drewN | apply below_drew1) | exact HB.out)⟩
  · rw [if_neg c3] at H
    have c3b0 : decide (1000 < (a0.size : Int)) = false := decide_eq_false c3
    have c3b1 : decide (1000 < a0.size) = false := decide_eq_false (by omega)
    clear c3
    have H' := Aside0.mk H
    clear H
    go_enter Tryz.func8, Tryz.ntmps8
    go_wp2_with (first | ((with_reducible refine gate_callee (f := 10) rfl ?_); refine goesL_ (some 6) rfl rfl Tryz.func10 (by kernel_rfl) rfl #[] rfl (by (try simp only [List.map_toArray, List.map_cons, List.map_nil]); first | done | rfl | (simp only [List.length_drop, List.length_take]; rfl)) ?_; (with_reducible refine (incipitlaw05_awake.calls  t155 _ ?side1 A2.out).mono ?_); (case side1 => exact Laid.go hLd (by repeat (first | (with_reducible first | exact HB.out | apply below_alloc | apply pw_below_drewN | apply below_drew1) | exact HB.out))); rintro e w5 ⟨rfl, hb⟩; refine ⟨_, rfl, ?_⟩; have n0_ := Aside0.mk (below_step (by repeat (first | (with_reducible first | exact HB.out | apply below_alloc | apply pw_below_drewN | apply below_drew1) | exact HB.out)) hb); clear HB; have HB := n0_; clear n0_; (try clear hb); (try clear hb2); (try clear hk); (try clear hi)))
    go_loopg [4] k (fun kq v4 w' => ∃ (x4_1 : Int), v4 = .int .i64 x4_1 ∧ Aside0 (incipitlaw05_EscapePlain.l0 kq a0 t155 x4_1 = some r) ∧ Aside0 (kq ≤ k) ∧ Aside0 (Below w.heap.size w w'))
    case atStart => exact ⟨(0), (by first | rfl | (simp; done) | (simp [*]; done)), H', ⟨Nat.le_refl _⟩, ⟨by repeat (first | (with_reducible first | exact HB.out | apply below_alloc | apply pw_below_drewN | apply below_drew1) | exact HB.out)⟩⟩
    case round =>
      clear H'
      try clear c1
      try clear p2
      try clear c3
      try clear c3b0
      try clear c3b1
      obtain ⟨x4_1, rfl, HA, HK1, HB⟩ := hrel
      cases gk with
      | zero => exact absurd HA.out (by simp [incipitlaw05_EscapePlain.l0])
      | succ k1 =>
        have H := HA.out
        clear HA
        simp only [incipitlaw05_EscapePlain.l0] at H
        by_cases c6 : x4_1 < (a0.size : Int)
        · rw [if_pos c6] at H
          have c6b0 : decide (x4_1 < (a0.size : Int)) = true := decide_eq_true c6
          clear c6
          by_cases c7 : 0 ≤ x4_1
          · rw [if_pos c7] at H
            have c7b0 : decide (0 ≤ x4_1) = true := decide_eq_true c7
            clear c7
            by_cases c9 : (bt a0 x4_1) ≥ 97
            · rw [if_pos c9] at H
              have c9b0 : decide (97 ≤ (bt a0 x4_1)) = true := decide_eq_true c9
              clear c9
              by_cases c10 : (bt a0 x4_1) ≤ 122
              · rw [if_pos c10] at H
                have c10b0 : decide ((bt a0 x4_1) ≤ 122) = true := decide_eq_true c10
                clear c10
                have H' := Aside0.mk H
                clear H
                have p8 : 0 ≤ (x4_1 : Int) := of_decide_eq_true (by first | (with_reducible assumption) | assumption)
                have q8 : x4_1 < (a0.size : Int) := of_decide_eq_true (by first | (with_reducible assumption) | assumption)
                have hx8 := bt_at a0 x4_1
                replace p8 := eq_true p8
                replace q8 := eq_true q8
                go_wp2
                go_roundg k1
                case measure => have := HK1.out; omega
                case rel => exact ⟨(wrap64 (x4_1 + 1)), (by first | rfl | (simp; done) | (simp [*]; done)), H', ⟨by have := HK1.out; omega⟩, ⟨by repeat (first | (with_reducible first | exact HB.out | apply below_alloc | apply pw_below_drewN | apply below_drew1) | exact HB.out)⟩⟩
              · rw [if_neg c10] at H
                have c10b0 : decide ((bt a0 x4_1) ≤ 122) = false := decide_eq_false c10
                clear c10
                by_cases c11 : (bt a0 x4_1) ≥ 65
                · rw [if_pos c11] at H
                  have c11b0 : decide (65 ≤ (bt a0 x4_1)) = true := decide_eq_true c11
                  clear c11
                  by_cases c12 : (bt a0 x4_1) ≤ 90
                  · rw [if_pos c12] at H
                    have c12b0 : decide ((bt a0 x4_1) ≤ 90) = true := decide_eq_true c12
                    clear c12
                    have H' := Aside0.mk H
                    clear H
                    have p8 : 0 ≤ (x4_1 : Int) := of_decide_eq_true (by first | (with_reducible assumption) | assumption)
                    have q8 : x4_1 < (a0.size : Int) := of_decide_eq_true (by first | (with_reducible assumption) | assumption)
                    have hx8 := bt_at a0 x4_1
                    replace p8 := eq_true p8
                    replace q8 := eq_true q8
                    go_wp2
                    go_roundg k1
                    case measure => have := HK1.out; omega
                    case rel => exact ⟨(wrap64 (x4_1 + 1)), (by first | rfl | (simp; done) | (simp [*]; done)), H', ⟨by have := HK1.out; omega⟩, ⟨by repeat (first | (with_reducible first | exact HB.out | apply below_alloc | apply pw_below_drewN | apply below_drew1) | exact HB.out)⟩⟩
                  · rw [if_neg c12] at H
                    have c12b0 : decide ((bt a0 x4_1) ≤ 90) = false := decide_eq_false c12
                    clear c12
                    by_cases c13 : (bt a0 x4_1) ≥ 48
                    · rw [if_pos c13] at H
                      have c13b0 : decide (48 ≤ (bt a0 x4_1)) = true := decide_eq_true c13
                      clear c13
                      by_cases c14 : (bt a0 x4_1) ≤ 57
                      · rw [if_pos c14] at H
                        have c14b0 : decide ((bt a0 x4_1) ≤ 57) = true := decide_eq_true c14
                        clear c14
                        have H' := Aside0.mk H
                        clear H
                        have p8 : 0 ≤ (x4_1 : Int) := of_decide_eq_true (by first | (with_reducible assumption) | assumption)
                        have q8 : x4_1 < (a0.size : Int) := of_decide_eq_true (by first | (with_reducible assumption) | assumption)
                        have hx8 := bt_at a0 x4_1
                        replace p8 := eq_true p8
                        replace q8 := eq_true q8
                        go_wp2
                        go_roundg k1
                        case measure => have := HK1.out; omega
                        case rel => exact ⟨(wrap64 (x4_1 + 1)), (by first | rfl | (simp; done) | (simp [*]; done)), H', ⟨by have := HK1.out; omega⟩, ⟨by repeat (first | (with_reducible first | exact HB.out | apply below_alloc | apply pw_below_drewN | apply below_drew1) | exact HB.out)⟩⟩
                      · rw [if_neg c14] at H
                        have c14b0 : decide ((bt a0 x4_1) ≤ 57) = false := decide_eq_false c14
                        clear c14
                        by_cases c15 : (bt a0 x4_1) = 45
                        · rw [if_pos c15] at H
                          have c15b0 : ((bt a0 x4_1) == 45) = true := beq_iff_eq.mpr c15
                          have c15b1 : ((bt a0 x4_1) != 45) = false := bne_eq_false_iff_eq.mpr c15
                          clear c15
                          have H' := Aside0.mk H
                          clear H
                          have p8 : 0 ≤ (x4_1 : Int) := of_decide_eq_true (by first | (with_reducible assumption) | assumption)
                          have q8 : x4_1 < (a0.size : Int) := of_decide_eq_true (by first | (with_reducible assumption) | assumption)
                          have hx8 := bt_at a0 x4_1
                          replace p8 := eq_true p8
                          replace q8 := eq_true q8
                          go_wp2
                          go_roundg k1
                          case measure => have := HK1.out; omega
                          case rel => exact ⟨(wrap64 (x4_1 + 1)), (by first | rfl | (simp; done) | (simp [*]; done)), H', ⟨by have := HK1.out; omega⟩, ⟨by repeat (first | (with_reducible first | exact HB.out | apply below_alloc | apply pw_below_drewN | apply below_drew1) | exact HB.out)⟩⟩
                        · rw [if_neg c15] at H
                          have c15b0 : ((bt a0 x4_1) == 45) = false := beq_eq_false_iff_ne.mpr c15
                          have c15b1 : ((bt a0 x4_1) != 45) = true := bne_iff_ne.mpr c15
                          by_cases c16 : (bt a0 x4_1) = 95
                          · rw [if_pos c16] at H
                            have c16b0 : ((bt a0 x4_1) == 95) = true := beq_iff_eq.mpr c16
                            have c16b1 : ((bt a0 x4_1) != 95) = false := bne_eq_false_iff_eq.mpr c16
                            clear c16
                            have H' := Aside0.mk H
                            clear H
                            have p8 : 0 ≤ (x4_1 : Int) := of_decide_eq_true (by first | (with_reducible assumption) | assumption)
                            have q8 : x4_1 < (a0.size : Int) := of_decide_eq_true (by first | (with_reducible assumption) | assumption)
                            have hx8 := bt_at a0 x4_1
                            replace p8 := eq_true p8
                            replace q8 := eq_true q8
                            go_wp2
                            go_roundg k1
                            case measure => have := HK1.out; omega
                            case rel => exact ⟨(wrap64 (x4_1 + 1)), (by first | rfl | (simp; done) | (simp [*]; done)), H', ⟨by have := HK1.out; omega⟩, ⟨by repeat (first | (with_reducible first | exact HB.out | apply below_alloc | apply pw_below_drewN | apply below_drew1) | exact HB.out)⟩⟩
                          · rw [if_neg c16] at H
                            have c16b0 : ((bt a0 x4_1) == 95) = false := beq_eq_false_iff_ne.mpr c16
                            have c16b1 : ((bt a0 x4_1) != 95) = true := bne_iff_ne.mpr c16
                            by_cases c17 : (bt a0 x4_1) = 46
                            · rw [if_pos c17] at H
                              have c17b0 : ((bt a0 x4_1) == 46) = true := beq_iff_eq.mpr c17
                              have c17b1 : ((bt a0 x4_1) != 46) = false := bne_eq_false_iff_eq.mpr c17
                              clear c17
                              have H' := Aside0.mk H
                              clear H
                              have p8 : 0 ≤ (x4_1 : Int) := of_decide_eq_true (by first | (with_reducible assumption) | assumption)
                              have q8 : x4_1 < (a0.size : Int) := of_decide_eq_true (by first | (with_reducible assumption) | assumption)
                              have hx8 := bt_at a0 x4_1
                              replace p8 := eq_true p8
                              replace q8 := eq_true q8
                              go_wp2
                              go_roundg k1
                              case measure => have := HK1.out; omega
                              case rel => exact ⟨(wrap64 (x4_1 + 1)), (by first | rfl | (simp; done) | (simp [*]; done)), H', ⟨by have := HK1.out; omega⟩, ⟨by repeat (first | (with_reducible first | exact HB.out | apply below_alloc | apply pw_below_drewN | apply below_drew1) | exact HB.out)⟩⟩
                            · rw [if_neg c17] at H
                              have c17b0 : ((bt a0 x4_1) == 46) = false := beq_eq_false_iff_ne.mpr c17
                              have c17b1 : ((bt a0 x4_1) != 46) = true := bne_iff_ne.mpr c17
                              by_cases c18 : (bt a0 x4_1) = 47
                              · rw [if_pos c18] at H
                                have c18b0 : ((bt a0 x4_1) == 47) = true := beq_iff_eq.mpr c18
                                have c18b1 : ((bt a0 x4_1) != 47) = false := bne_eq_false_iff_eq.mpr c18
                                clear c18
                                have H' := Aside0.mk H
                                clear H
                                have p8 : 0 ≤ (x4_1 : Int) := of_decide_eq_true (by first | (with_reducible assumption) | assumption)
                                have q8 : x4_1 < (a0.size : Int) := of_decide_eq_true (by first | (with_reducible assumption) | assumption)
                                have hx8 := bt_at a0 x4_1
                                replace p8 := eq_true p8
                                replace q8 := eq_true q8
                                go_wp2
                                go_roundg k1
                                case measure => have := HK1.out; omega
                                case rel => exact ⟨(wrap64 (x4_1 + 1)), (by first | rfl | (simp; done) | (simp [*]; done)), H', ⟨by have := HK1.out; omega⟩, ⟨by repeat (first | (with_reducible first | exact HB.out | apply below_alloc | apply pw_below_drewN | apply below_drew1) | exact HB.out)⟩⟩
                              · rw [if_neg c18] at H
                                have c18b0 : ((bt a0 x4_1) == 47) = false := beq_eq_false_iff_ne.mpr c18
                                have c18b1 : ((bt a0 x4_1) != 47) = true := bne_iff_ne.mpr c18
                                by_cases c19 : ((bt a0 x4_1) = 58)
                                · rw [if_pos c19] at H
                                  have c19b0 : ((bt a0 x4_1) == 58) = true := beq_iff_eq.mpr c19
                                  have c19b1 : ((bt a0 x4_1) != 58) = false := bne_eq_false_iff_eq.mpr c19
                                  clear c19
                                  have H' := Aside0.mk H
                                  clear H
                                  have p8 : 0 ≤ (x4_1 : Int) := of_decide_eq_true (by first | (with_reducible assumption) | assumption)
                                  have q8 : x4_1 < (a0.size : Int) := of_decide_eq_true (by first | (with_reducible assumption) | assumption)
                                  have hx8 := bt_at a0 x4_1
                                  replace p8 := eq_true p8
                                  replace q8 := eq_true q8
                                  go_wp2
                                  go_roundg k1
                                  case measure => have := HK1.out; omega
                                  case rel => exact ⟨(wrap64 (x4_1 + 1)), (by first | rfl | (simp; done) | (simp [*]; done)), H', ⟨by have := HK1.out; omega⟩, ⟨by repeat (first | (with_reducible first | exact HB.out | apply below_alloc | apply pw_below_drewN | apply below_drew1) | exact HB.out)⟩⟩
                                · rw [if_neg c19] at H
                                  have c19b0 : ((bt a0 x4_1) == 58) = false := beq_eq_false_iff_ne.mpr c19
                                  have c19b1 : ((bt a0 x4_1) != 58) = true := bne_iff_ne.mpr c19
                                  obtain rfl := Option.some.inj H
                                  have p8 : 0 ≤ (x4_1 : Int) := of_decide_eq_true (by first | (with_reducible assumption) | assumption)
                                  have q8 : x4_1 < (a0.size : Int) := of_decide_eq_true (by first | (with_reducible assumption) | assumption)
                                  have hx8 := bt_at a0 x4_1
                                  replace p8 := eq_true p8
                                  replace q8 := eq_true q8
                                  go_wp2
                                  go_ret
                                  exact ⟨by first | rfl | (simp [errW_none, errW_some] <;> rfl) | (simp [*, errW_none, errW_some] <;> rfl), by repeat (first | (with_reducible first | exact HB.out | apply below_alloc | apply pw_below_drewN | apply below_drew1) | exact HB.out)⟩
                    · rw [if_neg c13] at H
                      have c13b0 : decide (48 ≤ (bt a0 x4_1)) = false := decide_eq_false c13
                      clear c13
                      by_cases c20 : (bt a0 x4_1) = 45
                      · rw [if_pos c20] at H
                        have c20b0 : ((bt a0 x4_1) == 45) = true := beq_iff_eq.mpr c20
                        have c20b1 : ((bt a0 x4_1) != 45) = false := bne_eq_false_iff_eq.mpr c20
                        clear c20
                        have H' := Aside0.mk H
                        clear H
                        have p8 : 0 ≤ (x4_1 : Int) := of_decide_eq_true (by first | (with_reducible assumption) | assumption)
                        have q8 : x4_1 < (a0.size : Int) := of_decide_eq_true (by first | (with_reducible assumption) | assumption)
                        have hx8 := bt_at a0 x4_1
                        replace p8 := eq_true p8
                        replace q8 := eq_true q8
                        go_wp2
                        go_roundg k1
                        case measure => have := HK1.out; omega
                        case rel => exact ⟨(wrap64 (x4_1 + 1)), (by first | rfl | (simp; done) | (simp [*]; done)), H', ⟨by have := HK1.out; omega⟩, ⟨by repeat (first | (with_reducible first | exact HB.out | apply below_alloc | apply pw_below_drewN | apply below_drew1) | exact HB.out)⟩⟩
                      · rw [if_neg c20] at H
                        have c20b0 : ((bt a0 x4_1) == 45) = false := beq_eq_false_iff_ne.mpr c20
                        have c20b1 : ((bt a0 x4_1) != 45) = true := bne_iff_ne.mpr c20
                        by_cases c21 : (bt a0 x4_1) = 95
                        · rw [if_pos c21] at H
                          have c21b0 : ((bt a0 x4_1) == 95) = true := beq_iff_eq.mpr c21
                          have c21b1 : ((bt a0 x4_1) != 95) = false := bne_eq_false_iff_eq.mpr c21
                          clear c21
                          have H' := Aside0.mk H
                          clear H
                          have p8 : 0 ≤ (x4_1 : Int) := of_decide_eq_true (by first | (with_reducible assumption) | assumption)
                          have q8 : x4_1 < (a0.size : Int) := of_decide_eq_true (by first | (with_reducible assumption) | assumption)
                          have hx8 := bt_at a0 x4_1
                          replace p8 := eq_true p8
                          replace q8 := eq_true q8
                          go_wp2
                          go_roundg k1
                          case measure => have := HK1.out; omega
                          case rel => exact ⟨(wrap64 (x4_1 + 1)), (by first | rfl | (simp; done) | (simp [*]; done)), H', ⟨by have := HK1.out; omega⟩, ⟨by repeat (first | (with_reducible first | exact HB.out | apply below_alloc | apply pw_below_drewN | apply below_drew1) | exact HB.out)⟩⟩
                        · rw [if_neg c21] at H
                          have c21b0 : ((bt a0 x4_1) == 95) = false := beq_eq_false_iff_ne.mpr c21
                          have c21b1 : ((bt a0 x4_1) != 95) = true := bne_iff_ne.mpr c21
                          by_cases c22 : (bt a0 x4_1) = 46
                          · rw [if_pos c22] at H
                            have c22b0 : ((bt a0 x4_1) == 46) = true := beq_iff_eq.mpr c22
                            have c22b1 : ((bt a0 x4_1) != 46) = false := bne_eq_false_iff_eq.mpr c22
                            clear c22
                            have H' := Aside0.mk H
                            clear H
                            have p8 : 0 ≤ (x4_1 : Int) := of_decide_eq_true (by first | (with_reducible assumption) | assumption)
                            have q8 : x4_1 < (a0.size : Int) := of_decide_eq_true (by first | (with_reducible assumption) | assumption)
                            have hx8 := bt_at a0 x4_1
                            replace p8 := eq_true p8
                            replace q8 := eq_true q8
                            go_wp2
                            go_roundg k1
                            case measure => have := HK1.out; omega
                            case rel => exact ⟨(wrap64 (x4_1 + 1)), (by first | rfl | (simp; done) | (simp [*]; done)), H', ⟨by have := HK1.out; omega⟩, ⟨by repeat (first | (with_reducible first | exact HB.out | apply below_alloc | apply pw_below_drewN | apply below_drew1) | exact HB.out)⟩⟩
                          · rw [if_neg c22] at H
                            have c22b0 : ((bt a0 x4_1) == 46) = false := beq_eq_false_iff_ne.mpr c22
                            have c22b1 : ((bt a0 x4_1) != 46) = true := bne_iff_ne.mpr c22
                            by_cases c23 : (bt a0 x4_1) = 47
                            · rw [if_pos c23] at H
                              have c23b0 : ((bt a0 x4_1) == 47) = true := beq_iff_eq.mpr c23
                              have c23b1 : ((bt a0 x4_1) != 47) = false := bne_eq_false_iff_eq.mpr c23
                              clear c23
                              have H' := Aside0.mk H
                              clear H
                              have p8 : 0 ≤ (x4_1 : Int) := of_decide_eq_true (by first | (with_reducible assumption) | assumption)
                              have q8 : x4_1 < (a0.size : Int) := of_decide_eq_true (by first | (with_reducible assumption) | assumption)
                              have hx8 := bt_at a0 x4_1
                              replace p8 := eq_true p8
                              replace q8 := eq_true q8
                              go_wp2
                              go_roundg k1
                              case measure => have := HK1.out; omega
                              case rel => exact ⟨(wrap64 (x4_1 + 1)), (by first | rfl | (simp; done) | (simp [*]; done)), H', ⟨by have := HK1.out; omega⟩, ⟨by repeat (first | (with_reducible first | exact HB.out | apply below_alloc | apply pw_below_drewN | apply below_drew1) | exact HB.out)⟩⟩
                            · rw [if_neg c23] at H
                              have c23b0 : ((bt a0 x4_1) == 47) = false := beq_eq_false_iff_ne.mpr c23
                              have c23b1 : ((bt a0 x4_1) != 47) = true := bne_iff_ne.mpr c23
                              by_cases c24 : ((bt a0 x4_1) = 58)
                              · rw [if_pos c24] at H
                                have c24b0 : ((bt a0 x4_1) == 58) = true := beq_iff_eq.mpr c24
                                have c24b1 : ((bt a0 x4_1) != 58) = false := bne_eq_false_iff_eq.mpr c24
                                clear c24
                                have H' := Aside0.mk H
                                clear H
                                have p8 : 0 ≤ (x4_1 : Int) := of_decide_eq_true (by first | (with_reducible assumption) | assumption)
                                have q8 : x4_1 < (a0.size : Int) := of_decide_eq_true (by first | (with_reducible assumption) | assumption)
                                have hx8 := bt_at a0 x4_1
                                replace p8 := eq_true p8
                                replace q8 := eq_true q8
                                go_wp2
                                go_roundg k1
                                case measure => have := HK1.out; omega
                                case rel => exact ⟨(wrap64 (x4_1 + 1)), (by first | rfl | (simp; done) | (simp [*]; done)), H', ⟨by have := HK1.out; omega⟩, ⟨by repeat (first | (with_reducible first | exact HB.out | apply below_alloc | apply pw_below_drewN | apply below_drew1) | exact HB.out)⟩⟩
                              · rw [if_neg c24] at H
                                have c24b0 : ((bt a0 x4_1) == 58) = false := beq_eq_false_iff_ne.mpr c24
                                have c24b1 : ((bt a0 x4_1) != 58) = true := bne_iff_ne.mpr c24
                                obtain rfl := Option.some.inj H
                                have p8 : 0 ≤ (x4_1 : Int) := of_decide_eq_true (by first | (with_reducible assumption) | assumption)
                                have q8 : x4_1 < (a0.size : Int) := of_decide_eq_true (by first | (with_reducible assumption) | assumption)
                                have hx8 := bt_at a0 x4_1
                                replace p8 := eq_true p8
                                replace q8 := eq_true q8
                                go_wp2
                                go_ret
                                exact ⟨by first | rfl | (simp [errW_none, errW_some] <;> rfl) | (simp [*, errW_none, errW_some] <;> rfl), by repeat (first | (with_reducible first | exact HB.out | apply below_alloc | apply pw_below_drewN | apply below_drew1) | exact HB.out)⟩
                · rw [if_neg c11] at H
                  have c11b0 : decide (65 ≤ (bt a0 x4_1)) = false := decide_eq_false c11
                  clear c11
                  by_cases c25 : (bt a0 x4_1) ≥ 48
                  · rw [if_pos c25] at H
                    have c25b0 : decide (48 ≤ (bt a0 x4_1)) = true := decide_eq_true c25
                    clear c25
                    by_cases c26 : (bt a0 x4_1) ≤ 57
                    · rw [if_pos c26] at H
                      have c26b0 : decide ((bt a0 x4_1) ≤ 57) = true := decide_eq_true c26
                      clear c26
                      have H' := Aside0.mk H
                      clear H
                      have p8 : 0 ≤ (x4_1 : Int) := of_decide_eq_true (by first | (with_reducible assumption) | assumption)
                      have q8 : x4_1 < (a0.size : Int) := of_decide_eq_true (by first | (with_reducible assumption) | assumption)
                      have hx8 := bt_at a0 x4_1
                      replace p8 := eq_true p8
                      replace q8 := eq_true q8
                      go_wp2
                      go_roundg k1
                      case measure => have := HK1.out; omega
                      case rel => exact ⟨(wrap64 (x4_1 + 1)), (by first | rfl | (simp; done) | (simp [*]; done)), H', ⟨by have := HK1.out; omega⟩, ⟨by repeat (first | (with_reducible first | exact HB.out | apply below_alloc | apply pw_below_drewN | apply below_drew1) | exact HB.out)⟩⟩
                    · rw [if_neg c26] at H
                      have c26b0 : decide ((bt a0 x4_1) ≤ 57) = false := decide_eq_false c26
                      clear c26
                      by_cases c27 : (bt a0 x4_1) = 45
                      · rw [if_pos c27] at H
                        have c27b0 : ((bt a0 x4_1) == 45) = true := beq_iff_eq.mpr c27
                        have c27b1 : ((bt a0 x4_1) != 45) = false := bne_eq_false_iff_eq.mpr c27
                        clear c27
                        have H' := Aside0.mk H
                        clear H
                        have p8 : 0 ≤ (x4_1 : Int) := of_decide_eq_true (by first | (with_reducible assumption) | assumption)
                        have q8 : x4_1 < (a0.size : Int) := of_decide_eq_true (by first | (with_reducible assumption) | assumption)
                        have hx8 := bt_at a0 x4_1
                        replace p8 := eq_true p8
                        replace q8 := eq_true q8
                        go_wp2
                        go_roundg k1
                        case measure => have := HK1.out; omega
                        case rel => exact ⟨(wrap64 (x4_1 + 1)), (by first | rfl | (simp; done) | (simp [*]; done)), H', ⟨by have := HK1.out; omega⟩, ⟨by repeat (first | (with_reducible first | exact HB.out | apply below_alloc | apply pw_below_drewN | apply below_drew1) | exact HB.out)⟩⟩
                      · rw [if_neg c27] at H
                        have c27b0 : ((bt a0 x4_1) == 45) = false := beq_eq_false_iff_ne.mpr c27
                        have c27b1 : ((bt a0 x4_1) != 45) = true := bne_iff_ne.mpr c27
                        by_cases c28 : (bt a0 x4_1) = 95
                        · rw [if_pos c28] at H
                          have c28b0 : ((bt a0 x4_1) == 95) = true := beq_iff_eq.mpr c28
                          have c28b1 : ((bt a0 x4_1) != 95) = false := bne_eq_false_iff_eq.mpr c28
                          clear c28
                          have H' := Aside0.mk H
                          clear H
                          have p8 : 0 ≤ (x4_1 : Int) := of_decide_eq_true (by first | (with_reducible assumption) | assumption)
                          have q8 : x4_1 < (a0.size : Int) := of_decide_eq_true (by first | (with_reducible assumption) | assumption)
                          have hx8 := bt_at a0 x4_1
                          replace p8 := eq_true p8
                          replace q8 := eq_true q8
                          go_wp2
                          go_roundg k1
                          case measure => have := HK1.out; omega
                          case rel => exact ⟨(wrap64 (x4_1 + 1)), (by first | rfl | (simp; done) | (simp [*]; done)), H', ⟨by have := HK1.out; omega⟩, ⟨by repeat (first | (with_reducible first | exact HB.out | apply below_alloc | apply pw_below_drewN | apply below_drew1) | exact HB.out)⟩⟩
                        · rw [if_neg c28] at H
                          have c28b0 : ((bt a0 x4_1) == 95) = false := beq_eq_false_iff_ne.mpr c28
                          have c28b1 : ((bt a0 x4_1) != 95) = true := bne_iff_ne.mpr c28
                          by_cases c29 : (bt a0 x4_1) = 46
                          · rw [if_pos c29] at H
                            have c29b0 : ((bt a0 x4_1) == 46) = true := beq_iff_eq.mpr c29
                            have c29b1 : ((bt a0 x4_1) != 46) = false := bne_eq_false_iff_eq.mpr c29
                            clear c29
                            have H' := Aside0.mk H
                            clear H
                            have p8 : 0 ≤ (x4_1 : Int) := of_decide_eq_true (by first | (with_reducible assumption) | assumption)
                            have q8 : x4_1 < (a0.size : Int) := of_decide_eq_true (by first | (with_reducible assumption) | assumption)
                            have hx8 := bt_at a0 x4_1
                            replace p8 := eq_true p8
                            replace q8 := eq_true q8
                            go_wp2
                            go_roundg k1
                            case measure => have := HK1.out; omega
                            case rel => exact ⟨(wrap64 (x4_1 + 1)), (by first | rfl | (simp; done) | (simp [*]; done)), H', ⟨by have := HK1.out; omega⟩, ⟨by repeat (first | (with_reducible first | exact HB.out | apply below_alloc | apply pw_below_drewN | apply below_drew1) | exact HB.out)⟩⟩
                          · rw [if_neg c29] at H
                            have c29b0 : ((bt a0 x4_1) == 46) = false := beq_eq_false_iff_ne.mpr c29
                            have c29b1 : ((bt a0 x4_1) != 46) = true := bne_iff_ne.mpr c29
                            by_cases c30 : (bt a0 x4_1) = 47
                            · rw [if_pos c30] at H
                              have c30b0 : ((bt a0 x4_1) == 47) = true := beq_iff_eq.mpr c30
                              have c30b1 : ((bt a0 x4_1) != 47) = false := bne_eq_false_iff_eq.mpr c30
                              clear c30
                              have H' := Aside0.mk H
                              clear H
                              have p8 : 0 ≤ (x4_1 : Int) := of_decide_eq_true (by first | (with_reducible assumption) | assumption)
                              have q8 : x4_1 < (a0.size : Int) := of_decide_eq_true (by first | (with_reducible assumption) | assumption)
                              have hx8 := bt_at a0 x4_1
                              replace p8 := eq_true p8
                              replace q8 := eq_true q8
                              go_wp2
                              go_roundg k1
                              case measure => have := HK1.out; omega
                              case rel => exact ⟨(wrap64 (x4_1 + 1)), (by first | rfl | (simp; done) | (simp [*]; done)), H', ⟨by have := HK1.out; omega⟩, ⟨by repeat (first | (with_reducible first | exact HB.out | apply below_alloc | apply pw_below_drewN | apply below_drew1) | exact HB.out)⟩⟩
                            · rw [if_neg c30] at H
                              have c30b0 : ((bt a0 x4_1) == 47) = false := beq_eq_false_iff_ne.mpr c30
                              have c30b1 : ((bt a0 x4_1) != 47) = true := bne_iff_ne.mpr c30
                              by_cases c31 : ((bt a0 x4_1) = 58)
                              · rw [if_pos c31] at H
                                have c31b0 : ((bt a0 x4_1) == 58) = true := beq_iff_eq.mpr c31
                                have c31b1 : ((bt a0 x4_1) != 58) = false := bne_eq_false_iff_eq.mpr c31
                                clear c31
                                have H' := Aside0.mk H
                                clear H
                                have p8 : 0 ≤ (x4_1 : Int) := of_decide_eq_true (by first | (with_reducible assumption) | assumption)
                                have q8 : x4_1 < (a0.size : Int) := of_decide_eq_true (by first | (with_reducible assumption) | assumption)
                                have hx8 := bt_at a0 x4_1
                                replace p8 := eq_true p8
                                replace q8 := eq_true q8
                                go_wp2
                                go_roundg k1
                                case measure => have := HK1.out; omega
                                case rel => exact ⟨(wrap64 (x4_1 + 1)), (by first | rfl | (simp; done) | (simp [*]; done)), H', ⟨by have := HK1.out; omega⟩, ⟨by repeat (first | (with_reducible first | exact HB.out | apply below_alloc | apply pw_below_drewN | apply below_drew1) | exact HB.out)⟩⟩
                              · rw [if_neg c31] at H
                                have c31b0 : ((bt a0 x4_1) == 58) = false := beq_eq_false_iff_ne.mpr c31
                                have c31b1 : ((bt a0 x4_1) != 58) = true := bne_iff_ne.mpr c31
                                obtain rfl := Option.some.inj H
                                have p8 : 0 ≤ (x4_1 : Int) := of_decide_eq_true (by first | (with_reducible assumption) | assumption)
                                have q8 : x4_1 < (a0.size : Int) := of_decide_eq_true (by first | (with_reducible assumption) | assumption)
                                have hx8 := bt_at a0 x4_1
                                replace p8 := eq_true p8
                                replace q8 := eq_true q8
                                go_wp2
                                go_ret
                                exact ⟨by first | rfl | (simp [errW_none, errW_some] <;> rfl) | (simp [*, errW_none, errW_some] <;> rfl), by repeat (first | (with_reducible first | exact HB.out | apply below_alloc | apply pw_below_drewN | apply below_drew1) | exact HB.out)⟩
                  · rw [if_neg c25] at H
                    have c25b0 : decide (48 ≤ (bt a0 x4_1)) = false := decide_eq_false c25
                    clear c25
                    by_cases c32 : (bt a0 x4_1) = 45
                    · rw [if_pos c32] at H
                      have c32b0 : ((bt a0 x4_1) == 45) = true := beq_iff_eq.mpr c32
                      have c32b1 : ((bt a0 x4_1) != 45) = false := bne_eq_false_iff_eq.mpr c32
                      clear c32
                      have H' := Aside0.mk H
                      clear H
                      have p8 : 0 ≤ (x4_1 : Int) := of_decide_eq_true (by first | (with_reducible assumption) | assumption)
                      have q8 : x4_1 < (a0.size : Int) := of_decide_eq_true (by first | (with_reducible assumption) | assumption)
                      have hx8 := bt_at a0 x4_1
                      replace p8 := eq_true p8
                      replace q8 := eq_true q8
                      go_wp2
                      go_roundg k1
                      case measure => have := HK1.out; omega
                      case rel => exact ⟨(wrap64 (x4_1 + 1)), (by first | rfl | (simp; done) | (simp [*]; done)), H', ⟨by have := HK1.out; omega⟩, ⟨by repeat (first | (with_reducible first | exact HB.out | apply below_alloc | apply pw_below_drewN | apply below_drew1) | exact HB.out)⟩⟩
                    · rw [if_neg c32] at H
                      have c32b0 : ((bt a0 x4_1) == 45) = false := beq_eq_false_iff_ne.mpr c32
                      have c32b1 : ((bt a0 x4_1) != 45) = true := bne_iff_ne.mpr c32
                      by_cases c33 : (bt a0 x4_1) = 95
                      · rw [if_pos c33] at H
                        have c33b0 : ((bt a0 x4_1) == 95) = true := beq_iff_eq.mpr c33
                        have c33b1 : ((bt a0 x4_1) != 95) = false := bne_eq_false_iff_eq.mpr c33
                        clear c33
                        have H' := Aside0.mk H
                        clear H
                        have p8 : 0 ≤ (x4_1 : Int) := of_decide_eq_true (by first | (with_reducible assumption) | assumption)
                        have q8 : x4_1 < (a0.size : Int) := of_decide_eq_true (by first | (with_reducible assumption) | assumption)
                        have hx8 := bt_at a0 x4_1
                        replace p8 := eq_true p8
                        replace q8 := eq_true q8
                        go_wp2
                        go_roundg k1
                        case measure => have := HK1.out; omega
                        case rel => exact ⟨(wrap64 (x4_1 + 1)), (by first | rfl | (simp; done) | (simp [*]; done)), H', ⟨by have := HK1.out; omega⟩, ⟨by repeat (first | (with_reducible first | exact HB.out | apply below_alloc | apply pw_below_drewN | apply below_drew1) | exact HB.out)⟩⟩
                      · rw [if_neg c33] at H
                        have c33b0 : ((bt a0 x4_1) == 95) = false := beq_eq_false_iff_ne.mpr c33
                        have c33b1 : ((bt a0 x4_1) != 95) = true := bne_iff_ne.mpr c33
                        by_cases c34 : (bt a0 x4_1) = 46
                        · rw [if_pos c34] at H
                          have c34b0 : ((bt a0 x4_1) == 46) = true := beq_iff_eq.mpr c34
                          have c34b1 : ((bt a0 x4_1) != 46) = false := bne_eq_false_iff_eq.mpr c34
                          clear c34
                          have H' := Aside0.mk H
                          clear H
                          have p8 : 0 ≤ (x4_1 : Int) := of_decide_eq_true (by first | (with_reducible assumption) | assumption)
                          have q8 : x4_1 < (a0.size : Int) := of_decide_eq_true (by first | (with_reducible assumption) | assumption)
                          have hx8 := bt_at a0 x4_1
                          replace p8 := eq_true p8
                          replace q8 := eq_true q8
                          go_wp2
                          go_roundg k1
                          case measure => have := HK1.out; omega
                          case rel => exact ⟨(wrap64 (x4_1 + 1)), (by first | rfl | (simp; done) | (simp [*]; done)), H', ⟨by have := HK1.out; omega⟩, ⟨by repeat (first | (with_reducible first | exact HB.out | apply below_alloc | apply pw_below_drewN | apply below_drew1) | exact HB.out)⟩⟩
                        · rw [if_neg c34] at H
                          have c34b0 : ((bt a0 x4_1) == 46) = false := beq_eq_false_iff_ne.mpr c34
                          have c34b1 : ((bt a0 x4_1) != 46) = true := bne_iff_ne.mpr c34
                          by_cases c35 : (bt a0 x4_1) = 47
                          · rw [if_pos c35] at H
                            have c35b0 : ((bt a0 x4_1) == 47) = true := beq_iff_eq.mpr c35
                            have c35b1 : ((bt a0 x4_1) != 47) = false := bne_eq_false_iff_eq.mpr c35
                            clear c35
                            have H' := Aside0.mk H
                            clear H
                            have p8 : 0 ≤ (x4_1 : Int) := of_decide_eq_true (by first | (with_reducible assumption) | assumption)
                            have q8 : x4_1 < (a0.size : Int) := of_decide_eq_true (by first | (with_reducible assumption) | assumption)
                            have hx8 := bt_at a0 x4_1
                            replace p8 := eq_true p8
                            replace q8 := eq_true q8
                            go_wp2
                            go_roundg k1
                            case measure => have := HK1.out; omega
                            case rel => exact ⟨(wrap64 (x4_1 + 1)), (by first | rfl | (simp; done) | (simp [*]; done)), H', ⟨by have := HK1.out; omega⟩, ⟨by repeat (first | (with_reducible first | exact HB.out | apply below_alloc | apply pw_below_drewN | apply below_drew1) | exact HB.out)⟩⟩
                          · rw [if_neg c35] at H
                            have c35b0 : ((bt a0 x4_1) == 47) = false := beq_eq_false_iff_ne.mpr c35
                            have c35b1 : ((bt a0 x4_1) != 47) = true := bne_iff_ne.mpr c35
                            by_cases c36 : ((bt a0 x4_1) = 58)
                            · rw [if_pos c36] at H
                              have c36b0 : ((bt a0 x4_1) == 58) = true := beq_iff_eq.mpr c36
                              have c36b1 : ((bt a0 x4_1) != 58) = false := bne_eq_false_iff_eq.mpr c36
                              clear c36
                              have H' := Aside0.mk H
                              clear H
                              have p8 : 0 ≤ (x4_1 : Int) := of_decide_eq_true (by first | (with_reducible assumption) | assumption)
                              have q8 : x4_1 < (a0.size : Int) := of_decide_eq_true (by first | (with_reducible assumption) | assumption)
                              have hx8 := bt_at a0 x4_1
                              replace p8 := eq_true p8
                              replace q8 := eq_true q8
                              go_wp2
                              go_roundg k1
                              case measure => have := HK1.out; omega
                              case rel => exact ⟨(wrap64 (x4_1 + 1)), (by first | rfl | (simp; done) | (simp [*]; done)), H', ⟨by have := HK1.out; omega⟩, ⟨by repeat (first | (with_reducible first | exact HB.out | apply below_alloc | apply pw_below_drewN | apply below_drew1) | exact HB.out)⟩⟩
                            · rw [if_neg c36] at H
                              have c36b0 : ((bt a0 x4_1) == 58) = false := beq_eq_false_iff_ne.mpr c36
                              have c36b1 : ((bt a0 x4_1) != 58) = true := bne_iff_ne.mpr c36
                              obtain rfl := Option.some.inj H
                              have p8 : 0 ≤ (x4_1 : Int) := of_decide_eq_true (by first | (with_reducible assumption) | assumption)
                              have q8 : x4_1 < (a0.size : Int) := of_decide_eq_true (by first | (with_reducible assumption) | assumption)
                              have hx8 := bt_at a0 x4_1
                              replace p8 := eq_true p8
                              replace q8 := eq_true q8
                              go_wp2
                              go_ret
                              exact ⟨by first | rfl | (simp [errW_none, errW_some] <;> rfl) | (simp [*, errW_none, errW_some] <;> rfl), by repeat (first | (with_reducible first | exact HB.out | apply below_alloc | apply pw_below_drewN | apply below_drew1) | exact HB.out)⟩
            · rw [if_neg c9] at H
              have c9b0 : decide (97 ≤ (bt a0 x4_1)) = false := decide_eq_false c9
              clear c9
              by_cases c37 : (bt a0 x4_1) ≥ 65
              · rw [if_pos c37] at H
                have c37b0 : decide (65 ≤ (bt a0 x4_1)) = true := decide_eq_true c37
                clear c37
                by_cases c38 : (bt a0 x4_1) ≤ 90
                · rw [if_pos c38] at H
                  have c38b0 : decide ((bt a0 x4_1) ≤ 90) = true := decide_eq_true c38
                  clear c38
                  have H' := Aside0.mk H
                  clear H
                  have p8 : 0 ≤ (x4_1 : Int) := of_decide_eq_true (by first | (with_reducible assumption) | assumption)
                  have q8 : x4_1 < (a0.size : Int) := of_decide_eq_true (by first | (with_reducible assumption) | assumption)
                  have hx8 := bt_at a0 x4_1
                  replace p8 := eq_true p8
                  replace q8 := eq_true q8
                  go_wp2
                  go_roundg k1
                  case measure => have := HK1.out; omega
                  case rel => exact ⟨(wrap64 (x4_1 + 1)), (by first | rfl | (simp; done) | (simp [*]; done)), H', ⟨by have := HK1.out; omega⟩, ⟨by repeat (first | (with_reducible first | exact HB.out | apply below_alloc | apply pw_below_drewN | apply below_drew1) | exact HB.out)⟩⟩
                · rw [if_neg c38] at H
                  have c38b0 : decide ((bt a0 x4_1) ≤ 90) = false := decide_eq_false c38
                  clear c38
                  by_cases c39 : (bt a0 x4_1) ≥ 48
                  · rw [if_pos c39] at H
                    have c39b0 : decide (48 ≤ (bt a0 x4_1)) = true := decide_eq_true c39
                    clear c39
                    by_cases c40 : (bt a0 x4_1) ≤ 57
                    · rw [if_pos c40] at H
                      have c40b0 : decide ((bt a0 x4_1) ≤ 57) = true := decide_eq_true c40
                      clear c40
                      have H' := Aside0.mk H
                      clear H
                      have p8 : 0 ≤ (x4_1 : Int) := of_decide_eq_true (by first | (with_reducible assumption) | assumption)
                      have q8 : x4_1 < (a0.size : Int) := of_decide_eq_true (by first | (with_reducible assumption) | assumption)
                      have hx8 := bt_at a0 x4_1
                      replace p8 := eq_true p8
                      replace q8 := eq_true q8
                      go_wp2
                      go_roundg k1
                      case measure => have := HK1.out; omega
                      case rel => exact ⟨(wrap64 (x4_1 + 1)), (by first | rfl | (simp; done) | (simp [*]; done)), H', ⟨by have := HK1.out; omega⟩, ⟨by repeat (first | (with_reducible first | exact HB.out | apply below_alloc | apply pw_below_drewN | apply below_drew1) | exact HB.out)⟩⟩
                    · rw [if_neg c40] at H
                      have c40b0 : decide ((bt a0 x4_1) ≤ 57) = false := decide_eq_false c40
                      clear c40
                      by_cases c41 : (bt a0 x4_1) = 45
                      · rw [if_pos c41] at H
                        have c41b0 : ((bt a0 x4_1) == 45) = true := beq_iff_eq.mpr c41
                        have c41b1 : ((bt a0 x4_1) != 45) = false := bne_eq_false_iff_eq.mpr c41
                        clear c41
                        have H' := Aside0.mk H
                        clear H
                        have p8 : 0 ≤ (x4_1 : Int) := of_decide_eq_true (by first | (with_reducible assumption) | assumption)
                        have q8 : x4_1 < (a0.size : Int) := of_decide_eq_true (by first | (with_reducible assumption) | assumption)
                        have hx8 := bt_at a0 x4_1
                        replace p8 := eq_true p8
                        replace q8 := eq_true q8
                        go_wp2
                        go_roundg k1
                        case measure => have := HK1.out; omega
                        case rel => exact ⟨(wrap64 (x4_1 + 1)), (by first | rfl | (simp; done) | (simp [*]; done)), H', ⟨by have := HK1.out; omega⟩, ⟨by repeat (first | (with_reducible first | exact HB.out | apply below_alloc | apply pw_below_drewN | apply below_drew1) | exact HB.out)⟩⟩
                      · rw [if_neg c41] at H
                        have c41b0 : ((bt a0 x4_1) == 45) = false := beq_eq_false_iff_ne.mpr c41
                        have c41b1 : ((bt a0 x4_1) != 45) = true := bne_iff_ne.mpr c41
                        by_cases c42 : (bt a0 x4_1) = 95
                        · rw [if_pos c42] at H
                          have c42b0 : ((bt a0 x4_1) == 95) = true := beq_iff_eq.mpr c42
                          have c42b1 : ((bt a0 x4_1) != 95) = false := bne_eq_false_iff_eq.mpr c42
                          clear c42
                          have H' := Aside0.mk H
                          clear H
                          have p8 : 0 ≤ (x4_1 : Int) := of_decide_eq_true (by first | (with_reducible assumption) | assumption)
                          have q8 : x4_1 < (a0.size : Int) := of_decide_eq_true (by first | (with_reducible assumption) | assumption)
                          have hx8 := bt_at a0 x4_1
                          replace p8 := eq_true p8
                          replace q8 := eq_true q8
                          go_wp2
                          go_roundg k1
                          case measure => have := HK1.out; omega
                          case rel => exact ⟨(wrap64 (x4_1 + 1)), (by first | rfl | (simp; done) | (simp [*]; done)), H', ⟨by have := HK1.out; omega⟩, ⟨by repeat (first | (with_reducible first | exact HB.out | apply below_alloc | apply pw_below_drewN | apply below_drew1) | exact HB.out)⟩⟩
                        · rw [if_neg c42] at H
                          have c42b0 : ((bt a0 x4_1) == 95) = false := beq_eq_false_iff_ne.mpr c42
                          have c42b1 : ((bt a0 x4_1) != 95) = true := bne_iff_ne.mpr c42
                          by_cases c43 : (bt a0 x4_1) = 46
                          · rw [if_pos c43] at H
                            have c43b0 : ((bt a0 x4_1) == 46) = true := beq_iff_eq.mpr c43
                            have c43b1 : ((bt a0 x4_1) != 46) = false := bne_eq_false_iff_eq.mpr c43
                            clear c43
                            have H' := Aside0.mk H
                            clear H
                            have p8 : 0 ≤ (x4_1 : Int) := of_decide_eq_true (by first | (with_reducible assumption) | assumption)
                            have q8 : x4_1 < (a0.size : Int) := of_decide_eq_true (by first | (with_reducible assumption) | assumption)
                            have hx8 := bt_at a0 x4_1
                            replace p8 := eq_true p8
                            replace q8 := eq_true q8
                            go_wp2
                            go_roundg k1
                            case measure => have := HK1.out; omega
                            case rel => exact ⟨(wrap64 (x4_1 + 1)), (by first | rfl | (simp; done) | (simp [*]; done)), H', ⟨by have := HK1.out; omega⟩, ⟨by repeat (first | (with_reducible first | exact HB.out | apply below_alloc | apply pw_below_drewN | apply below_drew1) | exact HB.out)⟩⟩
                          · rw [if_neg c43] at H
                            have c43b0 : ((bt a0 x4_1) == 46) = false := beq_eq_false_iff_ne.mpr c43
                            have c43b1 : ((bt a0 x4_1) != 46) = true := bne_iff_ne.mpr c43
                            by_cases c44 : (bt a0 x4_1) = 47
                            · rw [if_pos c44] at H
                              have c44b0 : ((bt a0 x4_1) == 47) = true := beq_iff_eq.mpr c44
                              have c44b1 : ((bt a0 x4_1) != 47) = false := bne_eq_false_iff_eq.mpr c44
                              clear c44
                              have H' := Aside0.mk H
                              clear H
                              have p8 : 0 ≤ (x4_1 : Int) := of_decide_eq_true (by first | (with_reducible assumption) | assumption)
                              have q8 : x4_1 < (a0.size : Int) := of_decide_eq_true (by first | (with_reducible assumption) | assumption)
                              have hx8 := bt_at a0 x4_1
                              replace p8 := eq_true p8
                              replace q8 := eq_true q8
                              go_wp2
                              go_roundg k1
                              case measure => have := HK1.out; omega
                              case rel => exact ⟨(wrap64 (x4_1 + 1)), (by first | rfl | (simp; done) | (simp [*]; done)), H', ⟨by have := HK1.out; omega⟩, ⟨by repeat (first | (with_reducible first | exact HB.out | apply below_alloc | apply pw_below_drewN | apply below_drew1) | exact HB.out)⟩⟩
                            · rw [if_neg c44] at H
                              have c44b0 : ((bt a0 x4_1) == 47) = false := beq_eq_false_iff_ne.mpr c44
                              have c44b1 : ((bt a0 x4_1) != 47) = true := bne_iff_ne.mpr c44
                              by_cases c45 : ((bt a0 x4_1) = 58)
                              · rw [if_pos c45] at H
                                have c45b0 : ((bt a0 x4_1) == 58) = true := beq_iff_eq.mpr c45
                                have c45b1 : ((bt a0 x4_1) != 58) = false := bne_eq_false_iff_eq.mpr c45
                                clear c45
                                have H' := Aside0.mk H
                                clear H
                                have p8 : 0 ≤ (x4_1 : Int) := of_decide_eq_true (by first | (with_reducible assumption) | assumption)
                                have q8 : x4_1 < (a0.size : Int) := of_decide_eq_true (by first | (with_reducible assumption) | assumption)
                                have hx8 := bt_at a0 x4_1
                                replace p8 := eq_true p8
                                replace q8 := eq_true q8
                                go_wp2
                                go_roundg k1
                                case measure => have := HK1.out; omega
                                case rel => exact ⟨(wrap64 (x4_1 + 1)), (by first | rfl | (simp; done) | (simp [*]; done)), H', ⟨by have := HK1.out; omega⟩, ⟨by repeat (first | (with_reducible first | exact HB.out | apply below_alloc | apply pw_below_drewN | apply below_drew1) | exact HB.out)⟩⟩
                              · rw [if_neg c45] at H
                                have c45b0 : ((bt a0 x4_1) == 58) = false := beq_eq_false_iff_ne.mpr c45
                                have c45b1 : ((bt a0 x4_1) != 58) = true := bne_iff_ne.mpr c45
                                obtain rfl := Option.some.inj H
                                have p8 : 0 ≤ (x4_1 : Int) := of_decide_eq_true (by first | (with_reducible assumption) | assumption)
                                have q8 : x4_1 < (a0.size : Int) := of_decide_eq_true (by first | (with_reducible assumption) | assumption)
                                have hx8 := bt_at a0 x4_1
                                replace p8 := eq_true p8
                                replace q8 := eq_true q8
                                go_wp2
                                go_ret
                                exact ⟨by first | rfl | (simp [errW_none, errW_some] <;> rfl) | (simp [*, errW_none, errW_some] <;> rfl), by repeat (first | (with_reducible first | exact HB.out | apply below_alloc | apply pw_below_drewN | apply below_drew1) | exact HB.out)⟩
                  · rw [if_neg c39] at H
                    have c39b0 : decide (48 ≤ (bt a0 x4_1)) = false := decide_eq_false c39
                    clear c39
                    by_cases c46 : (bt a0 x4_1) = 45
                    · rw [if_pos c46] at H
                      have c46b0 : ((bt a0 x4_1) == 45) = true := beq_iff_eq.mpr c46
                      have c46b1 : ((bt a0 x4_1) != 45) = false := bne_eq_false_iff_eq.mpr c46
                      clear c46
                      have H' := Aside0.mk H
                      clear H
                      have p8 : 0 ≤ (x4_1 : Int) := of_decide_eq_true (by first | (with_reducible assumption) | assumption)
                      have q8 : x4_1 < (a0.size : Int) := of_decide_eq_true (by first | (with_reducible assumption) | assumption)
                      have hx8 := bt_at a0 x4_1
                      replace p8 := eq_true p8
                      replace q8 := eq_true q8
                      go_wp2
                      go_roundg k1
                      case measure => have := HK1.out; omega
                      case rel => exact ⟨(wrap64 (x4_1 + 1)), (by first | rfl | (simp; done) | (simp [*]; done)), H', ⟨by have := HK1.out; omega⟩, ⟨by repeat (first | (with_reducible first | exact HB.out | apply below_alloc | apply pw_below_drewN | apply below_drew1) | exact HB.out)⟩⟩
                    · rw [if_neg c46] at H
                      have c46b0 : ((bt a0 x4_1) == 45) = false := beq_eq_false_iff_ne.mpr c46
                      have c46b1 : ((bt a0 x4_1) != 45) = true := bne_iff_ne.mpr c46
                      by_cases c47 : (bt a0 x4_1) = 95
                      · rw [if_pos c47] at H
                        have c47b0 : ((bt a0 x4_1) == 95) = true := beq_iff_eq.mpr c47
                        have c47b1 : ((bt a0 x4_1) != 95) = false := bne_eq_false_iff_eq.mpr c47
                        clear c47
                        have H' := Aside0.mk H
                        clear H
                        have p8 : 0 ≤ (x4_1 : Int) := of_decide_eq_true (by first | (with_reducible assumption) | assumption)
                        have q8 : x4_1 < (a0.size : Int) := of_decide_eq_true (by first | (with_reducible assumption) | assumption)
                        have hx8 := bt_at a0 x4_1
                        replace p8 := eq_true p8
                        replace q8 := eq_true q8
                        go_wp2
                        go_roundg k1
                        case measure => have := HK1.out; omega
                        case rel => exact ⟨(wrap64 (x4_1 + 1)), (by first | rfl | (simp; done) | (simp [*]; done)), H', ⟨by have := HK1.out; omega⟩, ⟨by repeat (first | (with_reducible first | exact HB.out | apply below_alloc | apply pw_below_drewN | apply below_drew1) | exact HB.out)⟩⟩
                      · rw [if_neg c47] at H
                        have c47b0 : ((bt a0 x4_1) == 95) = false := beq_eq_false_iff_ne.mpr c47
                        have c47b1 : ((bt a0 x4_1) != 95) = true := bne_iff_ne.mpr c47
                        by_cases c48 : (bt a0 x4_1) = 46
                        · rw [if_pos c48] at H
                          have c48b0 : ((bt a0 x4_1) == 46) = true := beq_iff_eq.mpr c48
                          have c48b1 : ((bt a0 x4_1) != 46) = false := bne_eq_false_iff_eq.mpr c48
                          clear c48
                          have H' := Aside0.mk H
                          clear H
                          have p8 : 0 ≤ (x4_1 : Int) := of_decide_eq_true (by first | (with_reducible assumption) | assumption)
                          have q8 : x4_1 < (a0.size : Int) := of_decide_eq_true (by first | (with_reducible assumption) | assumption)
                          have hx8 := bt_at a0 x4_1
                          replace p8 := eq_true p8
                          replace q8 := eq_true q8
                          go_wp2
                          go_roundg k1
                          case measure => have := HK1.out; omega
                          case rel => exact ⟨(wrap64 (x4_1 + 1)), (by first | rfl | (simp; done) | (simp [*]; done)), H', ⟨by have := HK1.out; omega⟩, ⟨by repeat (first | (with_reducible first | exact HB.out | apply below_alloc | apply pw_below_drewN | apply below_drew1) | exact HB.out)⟩⟩
                        · rw [if_neg c48] at H
                          have c48b0 : ((bt a0 x4_1) == 46) = false := beq_eq_false_iff_ne.mpr c48
                          have c48b1 : ((bt a0 x4_1) != 46) = true := bne_iff_ne.mpr c48
                          by_cases c49 : (bt a0 x4_1) = 47
                          · rw [if_pos c49] at H
                            have c49b0 : ((bt a0 x4_1) == 47) = true := beq_iff_eq.mpr c49
                            have c49b1 : ((bt a0 x4_1) != 47) = false := bne_eq_false_iff_eq.mpr c49
                            clear c49
                            have H' := Aside0.mk H
                            clear H
                            have p8 : 0 ≤ (x4_1 : Int) := of_decide_eq_true (by first | (with_reducible assumption) | assumption)
                            have q8 : x4_1 < (a0.size : Int) := of_decide_eq_true (by first | (with_reducible assumption) | assumption)
                            have hx8 := bt_at a0 x4_1
                            replace p8 := eq_true p8
                            replace q8 := eq_true q8
                            go_wp2
                            go_roundg k1
                            case measure => have := HK1.out; omega
                            case rel => exact ⟨(wrap64 (x4_1 + 1)), (by first | rfl | (simp; done) | (simp [*]; done)), H', ⟨by have := HK1.out; omega⟩, ⟨by repeat (first | (with_reducible first | exact HB.out | apply below_alloc | apply pw_below_drewN | apply below_drew1) | exact HB.out)⟩⟩
                          · rw [if_neg c49] at H
                            have c49b0 : ((bt a0 x4_1) == 47) = false := beq_eq_false_iff_ne.mpr c49
                            have c49b1 : ((bt a0 x4_1) != 47) = true := bne_iff_ne.mpr c49
                            by_cases c50 : ((bt a0 x4_1) = 58)
                            · rw [if_pos c50] at H
                              have c50b0 : ((bt a0 x4_1) == 58) = true := beq_iff_eq.mpr c50
                              have c50b1 : ((bt a0 x4_1) != 58) = false := bne_eq_false_iff_eq.mpr c50
                              clear c50
                              have H' := Aside0.mk H
                              clear H
                              have p8 : 0 ≤ (x4_1 : Int) := of_decide_eq_true (by first | (with_reducible assumption) | assumption)
                              have q8 : x4_1 < (a0.size : Int) := of_decide_eq_true (by first | (with_reducible assumption) | assumption)
                              have hx8 := bt_at a0 x4_1
                              replace p8 := eq_true p8
                              replace q8 := eq_true q8
                              go_wp2
                              go_roundg k1
                              case measure => have := HK1.out; omega
                              case rel => exact ⟨(wrap64 (x4_1 + 1)), (by first | rfl | (simp; done) | (simp [*]; done)), H', ⟨by have := HK1.out; omega⟩, ⟨by repeat (first | (with_reducible first | exact HB.out | apply below_alloc | apply pw_below_drewN | apply below_drew1) | exact HB.out)⟩⟩
                            · rw [if_neg c50] at H
                              have c50b0 : ((bt a0 x4_1) == 58) = false := beq_eq_false_iff_ne.mpr c50
                              have c50b1 : ((bt a0 x4_1) != 58) = true := bne_iff_ne.mpr c50
                              obtain rfl := Option.some.inj H
                              have p8 : 0 ≤ (x4_1 : Int) := of_decide_eq_true (by first | (with_reducible assumption) | assumption)
                              have q8 : x4_1 < (a0.size : Int) := of_decide_eq_true (by first | (with_reducible assumption) | assumption)
                              have hx8 := bt_at a0 x4_1
                              replace p8 := eq_true p8
                              replace q8 := eq_true q8
                              go_wp2
                              go_ret
                              exact ⟨by first | rfl | (simp [errW_none, errW_some] <;> rfl) | (simp [*, errW_none, errW_some] <;> rfl), by repeat (first | (with_reducible first | exact HB.out | apply below_alloc | apply pw_below_drewN | apply below_drew1) | exact HB.out)⟩
              · rw [if_neg c37] at H
                have c37b0 : decide (65 ≤ (bt a0 x4_1)) = false := decide_eq_false c37
                clear c37
                by_cases c51 : (bt a0 x4_1) ≥ 48
                · rw [if_pos c51] at H
                  have c51b0 : decide (48 ≤ (bt a0 x4_1)) = true := decide_eq_true c51
                  clear c51
                  by_cases c52 : (bt a0 x4_1) ≤ 57
                  · rw [if_pos c52] at H
                    have c52b0 : decide ((bt a0 x4_1) ≤ 57) = true := decide_eq_true c52
                    clear c52
                    have H' := Aside0.mk H
                    clear H
                    have p8 : 0 ≤ (x4_1 : Int) := of_decide_eq_true (by first | (with_reducible assumption) | assumption)
                    have q8 : x4_1 < (a0.size : Int) := of_decide_eq_true (by first | (with_reducible assumption) | assumption)
                    have hx8 := bt_at a0 x4_1
                    replace p8 := eq_true p8
                    replace q8 := eq_true q8
                    go_wp2
                    go_roundg k1
                    case measure => have := HK1.out; omega
                    case rel => exact ⟨(wrap64 (x4_1 + 1)), (by first | rfl | (simp; done) | (simp [*]; done)), H', ⟨by have := HK1.out; omega⟩, ⟨by repeat (first | (with_reducible first | exact HB.out | apply below_alloc | apply pw_below_drewN | apply below_drew1) | exact HB.out)⟩⟩
                  · rw [if_neg c52] at H
                    have c52b0 : decide ((bt a0 x4_1) ≤ 57) = false := decide_eq_false c52
                    clear c52
                    by_cases c53 : (bt a0 x4_1) = 45
                    · rw [if_pos c53] at H
                      have c53b0 : ((bt a0 x4_1) == 45) = true := beq_iff_eq.mpr c53
                      have c53b1 : ((bt a0 x4_1) != 45) = false := bne_eq_false_iff_eq.mpr c53
                      clear c53
                      have H' := Aside0.mk H
                      clear H
                      have p8 : 0 ≤ (x4_1 : Int) := of_decide_eq_true (by first | (with_reducible assumption) | assumption)
                      have q8 : x4_1 < (a0.size : Int) := of_decide_eq_true (by first | (with_reducible assumption) | assumption)
                      have hx8 := bt_at a0 x4_1
                      replace p8 := eq_true p8
                      replace q8 := eq_true q8
                      go_wp2
                      go_roundg k1
                      case measure => have := HK1.out; omega
                      case rel => exact ⟨(wrap64 (x4_1 + 1)), (by first | rfl | (simp; done) | (simp [*]; done)), H', ⟨by have := HK1.out; omega⟩, ⟨by repeat (first | (with_reducible first | exact HB.out | apply below_alloc | apply pw_below_drewN | apply below_drew1) | exact HB.out)⟩⟩
                    · rw [if_neg c53] at H
                      have c53b0 : ((bt a0 x4_1) == 45) = false := beq_eq_false_iff_ne.mpr c53
                      have c53b1 : ((bt a0 x4_1) != 45) = true := bne_iff_ne.mpr c53
                      by_cases c54 : (bt a0 x4_1) = 95
                      · rw [if_pos c54] at H
                        have c54b0 : ((bt a0 x4_1) == 95) = true := beq_iff_eq.mpr c54
                        have c54b1 : ((bt a0 x4_1) != 95) = false := bne_eq_false_iff_eq.mpr c54
                        clear c54
                        have H' := Aside0.mk H
                        clear H
                        have p8 : 0 ≤ (x4_1 : Int) := of_decide_eq_true (by first | (with_reducible assumption) | assumption)
                        have q8 : x4_1 < (a0.size : Int) := of_decide_eq_true (by first | (with_reducible assumption) | assumption)
                        have hx8 := bt_at a0 x4_1
                        replace p8 := eq_true p8
                        replace q8 := eq_true q8
                        go_wp2
                        go_roundg k1
                        case measure => have := HK1.out; omega
                        case rel => exact ⟨(wrap64 (x4_1 + 1)), (by first | rfl | (simp; done) | (simp [*]; done)), H', ⟨by have := HK1.out; omega⟩, ⟨by repeat (first | (with_reducible first | exact HB.out | apply below_alloc | apply pw_below_drewN | apply below_drew1) | exact HB.out)⟩⟩
                      · rw [if_neg c54] at H
                        have c54b0 : ((bt a0 x4_1) == 95) = false := beq_eq_false_iff_ne.mpr c54
                        have c54b1 : ((bt a0 x4_1) != 95) = true := bne_iff_ne.mpr c54
                        by_cases c55 : (bt a0 x4_1) = 46
                        · rw [if_pos c55] at H
                          have c55b0 : ((bt a0 x4_1) == 46) = true := beq_iff_eq.mpr c55
                          have c55b1 : ((bt a0 x4_1) != 46) = false := bne_eq_false_iff_eq.mpr c55
                          clear c55
                          have H' := Aside0.mk H
                          clear H
                          have p8 : 0 ≤ (x4_1 : Int) := of_decide_eq_true (by first | (with_reducible assumption) | assumption)
                          have q8 : x4_1 < (a0.size : Int) := of_decide_eq_true (by first | (with_reducible assumption) | assumption)
                          have hx8 := bt_at a0 x4_1
                          replace p8 := eq_true p8
                          replace q8 := eq_true q8
                          go_wp2
                          go_roundg k1
                          case measure => have := HK1.out; omega
                          case rel => exact ⟨(wrap64 (x4_1 + 1)), (by first | rfl | (simp; done) | (simp [*]; done)), H', ⟨by have := HK1.out; omega⟩, ⟨by repeat (first | (with_reducible first | exact HB.out | apply below_alloc | apply pw_below_drewN | apply below_drew1) | exact HB.out)⟩⟩
                        · rw [if_neg c55] at H
                          have c55b0 : ((bt a0 x4_1) == 46) = false := beq_eq_false_iff_ne.mpr c55
                          have c55b1 : ((bt a0 x4_1) != 46) = true := bne_iff_ne.mpr c55
                          by_cases c56 : (bt a0 x4_1) = 47
                          · rw [if_pos c56] at H
                            have c56b0 : ((bt a0 x4_1) == 47) = true := beq_iff_eq.mpr c56
                            have c56b1 : ((bt a0 x4_1) != 47) = false := bne_eq_false_iff_eq.mpr c56
                            clear c56
                            have H' := Aside0.mk H
                            clear H
                            have p8 : 0 ≤ (x4_1 : Int) := of_decide_eq_true (by first | (with_reducible assumption) | assumption)
                            have q8 : x4_1 < (a0.size : Int) := of_decide_eq_true (by first | (with_reducible assumption) | assumption)
                            have hx8 := bt_at a0 x4_1
                            replace p8 := eq_true p8
                            replace q8 := eq_true q8
                            go_wp2
                            go_roundg k1
                            case measure => have := HK1.out; omega
                            case rel => exact ⟨(wrap64 (x4_1 + 1)), (by first | rfl | (simp; done) | (simp [*]; done)), H', ⟨by have := HK1.out; omega⟩, ⟨by repeat (first | (with_reducible first | exact HB.out | apply below_alloc | apply pw_below_drewN | apply below_drew1) | exact HB.out)⟩⟩
                          · rw [if_neg c56] at H
                            have c56b0 : ((bt a0 x4_1) == 47) = false := beq_eq_false_iff_ne.mpr c56
                            have c56b1 : ((bt a0 x4_1) != 47) = true := bne_iff_ne.mpr c56
                            by_cases c57 : ((bt a0 x4_1) = 58)
                            · rw [if_pos c57] at H
                              have c57b0 : ((bt a0 x4_1) == 58) = true := beq_iff_eq.mpr c57
                              have c57b1 : ((bt a0 x4_1) != 58) = false := bne_eq_false_iff_eq.mpr c57
                              clear c57
                              have H' := Aside0.mk H
                              clear H
                              have p8 : 0 ≤ (x4_1 : Int) := of_decide_eq_true (by first | (with_reducible assumption) | assumption)
                              have q8 : x4_1 < (a0.size : Int) := of_decide_eq_true (by first | (with_reducible assumption) | assumption)
                              have hx8 := bt_at a0 x4_1
                              replace p8 := eq_true p8
                              replace q8 := eq_true q8
                              go_wp2
                              go_roundg k1
                              case measure => have := HK1.out; omega
                              case rel => exact ⟨(wrap64 (x4_1 + 1)), (by first | rfl | (simp; done) | (simp [*]; done)), H', ⟨by have := HK1.out; omega⟩, ⟨by repeat (first | (with_reducible first | exact HB.out | apply below_alloc | apply pw_below_drewN | apply below_drew1) | exact HB.out)⟩⟩
                            · rw [if_neg c57] at H
                              have c57b0 : ((bt a0 x4_1) == 58) = false := beq_eq_false_iff_ne.mpr c57
                              have c57b1 : ((bt a0 x4_1) != 58) = true := bne_iff_ne.mpr c57
                              obtain rfl := Option.some.inj H
                              have p8 : 0 ≤ (x4_1 : Int) := of_decide_eq_true (by first | (with_reducible assumption) | assumption)
                              have q8 : x4_1 < (a0.size : Int) := of_decide_eq_true (by first | (with_reducible assumption) | assumption)
                              have hx8 := bt_at a0 x4_1
                              replace p8 := eq_true p8
                              replace q8 := eq_true q8
                              go_wp2
                              go_ret
                              exact ⟨by first | rfl | (simp [errW_none, errW_some] <;> rfl) | (simp [*, errW_none, errW_some] <;> rfl), by repeat (first | (with_reducible first | exact HB.out | apply below_alloc | apply pw_below_drewN | apply below_drew1) | exact HB.out)⟩
                · rw [if_neg c51] at H
                  have c51b0 : decide (48 ≤ (bt a0 x4_1)) = false := decide_eq_false c51
                  clear c51
                  by_cases c58 : (bt a0 x4_1) = 45
                  · rw [if_pos c58] at H
                    have c58b0 : ((bt a0 x4_1) == 45) = true := beq_iff_eq.mpr c58
                    have c58b1 : ((bt a0 x4_1) != 45) = false := bne_eq_false_iff_eq.mpr c58
                    clear c58
                    have H' := Aside0.mk H
                    clear H
                    have p8 : 0 ≤ (x4_1 : Int) := of_decide_eq_true (by first | (with_reducible assumption) | assumption)
                    have q8 : x4_1 < (a0.size : Int) := of_decide_eq_true (by first | (with_reducible assumption) | assumption)
                    have hx8 := bt_at a0 x4_1
                    replace p8 := eq_true p8
                    replace q8 := eq_true q8
                    go_wp2
                    go_roundg k1
                    case measure => have := HK1.out; omega
                    case rel => exact ⟨(wrap64 (x4_1 + 1)), (by first | rfl | (simp; done) | (simp [*]; done)), H', ⟨by have := HK1.out; omega⟩, ⟨by repeat (first | (with_reducible first | exact HB.out | apply below_alloc | apply pw_below_drewN | apply below_drew1) | exact HB.out)⟩⟩
                  · rw [if_neg c58] at H
                    have c58b0 : ((bt a0 x4_1) == 45) = false := beq_eq_false_iff_ne.mpr c58
                    have c58b1 : ((bt a0 x4_1) != 45) = true := bne_iff_ne.mpr c58
                    by_cases c59 : (bt a0 x4_1) = 95
                    · rw [if_pos c59] at H
                      have c59b0 : ((bt a0 x4_1) == 95) = true := beq_iff_eq.mpr c59
                      have c59b1 : ((bt a0 x4_1) != 95) = false := bne_eq_false_iff_eq.mpr c59
                      clear c59
                      have H' := Aside0.mk H
                      clear H
                      have p8 : 0 ≤ (x4_1 : Int) := of_decide_eq_true (by first | (with_reducible assumption) | assumption)
                      have q8 : x4_1 < (a0.size : Int) := of_decide_eq_true (by first | (with_reducible assumption) | assumption)
                      have hx8 := bt_at a0 x4_1
                      replace p8 := eq_true p8
                      replace q8 := eq_true q8
                      go_wp2
                      go_roundg k1
                      case measure => have := HK1.out; omega
                      case rel => exact ⟨(wrap64 (x4_1 + 1)), (by first | rfl | (simp; done) | (simp [*]; done)), H', ⟨by have := HK1.out; omega⟩, ⟨by repeat (first | (with_reducible first | exact HB.out | apply below_alloc | apply pw_below_drewN | apply below_drew1) | exact HB.out)⟩⟩
                    · rw [if_neg c59] at H
                      have c59b0 : ((bt a0 x4_1) == 95) = false := beq_eq_false_iff_ne.mpr c59
                      have c59b1 : ((bt a0 x4_1) != 95) = true := bne_iff_ne.mpr c59
                      by_cases c60 : (bt a0 x4_1) = 46
                      · rw [if_pos c60] at H
                        have c60b0 : ((bt a0 x4_1) == 46) = true := beq_iff_eq.mpr c60
                        have c60b1 : ((bt a0 x4_1) != 46) = false := bne_eq_false_iff_eq.mpr c60
                        clear c60
                        have H' := Aside0.mk H
                        clear H
                        have p8 : 0 ≤ (x4_1 : Int) := of_decide_eq_true (by first | (with_reducible assumption) | assumption)
                        have q8 : x4_1 < (a0.size : Int) := of_decide_eq_true (by first | (with_reducible assumption) | assumption)
                        have hx8 := bt_at a0 x4_1
                        replace p8 := eq_true p8
                        replace q8 := eq_true q8
                        go_wp2
                        go_roundg k1
                        case measure => have := HK1.out; omega
                        case rel => exact ⟨(wrap64 (x4_1 + 1)), (by first | rfl | (simp; done) | (simp [*]; done)), H', ⟨by have := HK1.out; omega⟩, ⟨by repeat (first | (with_reducible first | exact HB.out | apply below_alloc | apply pw_below_drewN | apply below_drew1) | exact HB.out)⟩⟩
                      · rw [if_neg c60] at H
                        have c60b0 : ((bt a0 x4_1) == 46) = false := beq_eq_false_iff_ne.mpr c60
                        have c60b1 : ((bt a0 x4_1) != 46) = true := bne_iff_ne.mpr c60
                        by_cases c61 : (bt a0 x4_1) = 47
                        · rw [if_pos c61] at H
                          have c61b0 : ((bt a0 x4_1) == 47) = true := beq_iff_eq.mpr c61
                          have c61b1 : ((bt a0 x4_1) != 47) = false := bne_eq_false_iff_eq.mpr c61
                          clear c61
                          have H' := Aside0.mk H
                          clear H
                          have p8 : 0 ≤ (x4_1 : Int) := of_decide_eq_true (by first | (with_reducible assumption) | assumption)
                          have q8 : x4_1 < (a0.size : Int) := of_decide_eq_true (by first | (with_reducible assumption) | assumption)
                          have hx8 := bt_at a0 x4_1
                          replace p8 := eq_true p8
                          replace q8 := eq_true q8
                          go_wp2
                          go_roundg k1
                          case measure => have := HK1.out; omega
                          case rel => exact ⟨(wrap64 (x4_1 + 1)), (by first | rfl | (simp; done) | (simp [*]; done)), H', ⟨by have := HK1.out; omega⟩, ⟨by repeat (first | (with_reducible first | exact HB.out | apply below_alloc | apply pw_below_drewN | apply below_drew1) | exact HB.out)⟩⟩
                        · rw [if_neg c61] at H
                          have c61b0 : ((bt a0 x4_1) == 47) = false := beq_eq_false_iff_ne.mpr c61
                          have c61b1 : ((bt a0 x4_1) != 47) = true := bne_iff_ne.mpr c61
                          by_cases c62 : ((bt a0 x4_1) = 58)
                          · rw [if_pos c62] at H
                            have c62b0 : ((bt a0 x4_1) == 58) = true := beq_iff_eq.mpr c62
                            have c62b1 : ((bt a0 x4_1) != 58) = false := bne_eq_false_iff_eq.mpr c62
                            clear c62
                            have H' := Aside0.mk H
                            clear H
                            have p8 : 0 ≤ (x4_1 : Int) := of_decide_eq_true (by first | (with_reducible assumption) | assumption)
                            have q8 : x4_1 < (a0.size : Int) := of_decide_eq_true (by first | (with_reducible assumption) | assumption)
                            have hx8 := bt_at a0 x4_1
                            replace p8 := eq_true p8
                            replace q8 := eq_true q8
                            go_wp2
                            go_roundg k1
                            case measure => have := HK1.out; omega
                            case rel => exact ⟨(wrap64 (x4_1 + 1)), (by first | rfl | (simp; done) | (simp [*]; done)), H', ⟨by have := HK1.out; omega⟩, ⟨by repeat (first | (with_reducible first | exact HB.out | apply below_alloc | apply pw_below_drewN | apply below_drew1) | exact HB.out)⟩⟩
                          · rw [if_neg c62] at H
                            have c62b0 : ((bt a0 x4_1) == 58) = false := beq_eq_false_iff_ne.mpr c62
                            have c62b1 : ((bt a0 x4_1) != 58) = true := bne_iff_ne.mpr c62
                            obtain rfl := Option.some.inj H
                            have p8 : 0 ≤ (x4_1 : Int) := of_decide_eq_true (by first | (with_reducible assumption) | assumption)
                            have q8 : x4_1 < (a0.size : Int) := of_decide_eq_true (by first | (with_reducible assumption) | assumption)
                            have hx8 := bt_at a0 x4_1
                            replace p8 := eq_true p8
                            replace q8 := eq_true q8
                            go_wp2
                            go_ret
                            exact ⟨by first | rfl | (simp [errW_none, errW_some] <;> rfl) | (simp [*, errW_none, errW_some] <;> rfl), by repeat (first | (with_reducible first | exact HB.out | apply below_alloc | apply pw_below_drewN | apply below_drew1) | exact HB.out)⟩
          · rw [if_neg c7] at H
            exact absurd H (by simp)
        · rw [if_neg c6] at H
          have c6b0 : decide (x4_1 < (a0.size : Int)) = false := decide_eq_false c6
          clear c6
          by_cases c63 : t155 = true
          · subst c63
            have H1 : ((escape_Html.f a0).bind fun t156 => (if t156.toList = a0.toList then ((escape_Href.f a0).bind fun t157 => (if t157.toList = a0.toList then ((escape_Unescape.f a0).bind fun t158 => (some (t158.toList == a0.toList))) else (some false))) else (some false))) = some r := by rw [if_pos rfl] at H; exact H
            clear H
            have H := H1
            clear H1
            replace H := Option.bind_eq_some_iff.mp H
            obtain ⟨t156, A640, H⟩ := H
            replace H : (if t156.toList = a0.toList then ((escape_Href.f a0).bind fun t157 => (if t157.toList = a0.toList then ((escape_Unescape.f a0).bind fun t158 => (some (t158.toList == a0.toList))) else (some false))) else (some false)) = some r := H
            have A64 := Aside0.mk A640
            clear A640
            by_cases c65 : t156.toList = a0.toList
            · rw [if_pos c65] at H
              have c65b0 : (t156.toList == a0.toList) = true := beq_iff_eq.mpr c65
              have c65b1 : (t156.toList != a0.toList) = false := bne_eq_false_iff_eq.mpr c65
              clear c65
              replace H := Option.bind_eq_some_iff.mp H
              obtain ⟨t157, A660, H⟩ := H
              replace H : (if t157.toList = a0.toList then ((escape_Unescape.f a0).bind fun t158 => (some (t158.toList == a0.toList))) else (some false)) = some r := H
              have A66 := Aside0.mk A660
              clear A660
              by_cases c67 : t157.toList = a0.toList
              · rw [if_pos c67] at H
                have c67b0 : (t157.toList == a0.toList) = true := beq_iff_eq.mpr c67
                have c67b1 : (t157.toList != a0.toList) = false := bne_eq_false_iff_eq.mpr c67
                clear c67
                replace H := Option.bind_eq_some_iff.mp H
                obtain ⟨t158, A680, H⟩ := H
                replace H : (some (t158.toList == a0.toList)) = some r := H
                have A68 := Aside0.mk A680
                clear A680
                obtain rfl := Option.some.inj H
                go_wp2_with (first | (go_at_call 11; (with_reducible refine (escape_Html.calls a0 t156 _ A64.out).mono ?_); rintro e w69 ⟨rfl, hb⟩; have n0_ := Aside0.mk (below_step (by repeat (first | (with_reducible first | exact HB.out | apply below_alloc | apply pw_below_drewN | apply below_drew1) | exact HB.out)) hb); clear HB; have HB := n0_; clear n0_; (try clear hb); (try clear hb2); (try clear hk); (try clear hi)) | (go_at_call 13; (with_reducible refine (escape_Href.calls a0 t157 _ A66.out).mono ?_); rintro e w70 ⟨rfl, hb⟩; have n0_ := Aside0.mk (below_step (by repeat (first | (with_reducible first | exact HB.out | apply below_alloc | apply pw_below_drewN | apply below_drew1) | exact HB.out)) hb); clear HB; have HB := n0_; clear n0_; (try clear hb); (try clear hb2); (try clear hk); (try clear hi)) | (go_at_call 15; (with_reducible refine (escape_Unescape.calls a0 t158 _ ?side1 A68.out).mono ?_); (case side1 => exact Laid.go hLd (by repeat (first | (with_reducible first | exact HB.out | apply below_alloc | apply pw_below_drewN | apply below_drew1) | exact HB.out))); rintro e w71 ⟨rfl, hb⟩; have n0_ := Aside0.mk (below_step (by repeat (first | (with_reducible first | exact HB.out | apply below_alloc | apply pw_below_drewN | apply below_drew1) | exact HB.out)) hb); clear HB; have HB := n0_; clear n0_; (try clear hb); (try clear hb2); (try clear hk); (try clear hi)))
                go_ret
                exact ⟨by first | rfl | (simp [errW_none, errW_some] <;> rfl) | (simp [*, errW_none, errW_some] <;> rfl), by repeat (first | (with_reducible first | exact HB.out | apply below_alloc | apply pw_below_drewN | apply below_drew1) | exact HB.out)⟩
              · rw [if_neg c67] at H
                have c67b0 : (t157.toList == a0.toList) = false := beq_eq_false_iff_ne.mpr c67
                have c67b1 : (t157.toList != a0.toList) = true := bne_iff_ne.mpr c67
                obtain rfl := Option.some.inj H
                go_wp2_with (first | (go_at_call 11; (with_reducible refine (escape_Html.calls a0 t156 _ A64.out).mono ?_); rintro e w72 ⟨rfl, hb⟩; have n0_ := Aside0.mk (below_step (by repeat (first | (with_reducible first | exact HB.out | apply below_alloc | apply pw_below_drewN | apply below_drew1) | exact HB.out)) hb); clear HB; have HB := n0_; clear n0_; (try clear hb); (try clear hb2); (try clear hk); (try clear hi)) | (go_at_call 13; (with_reducible refine (escape_Href.calls a0 t157 _ A66.out).mono ?_); rintro e w73 ⟨rfl, hb⟩; have n0_ := Aside0.mk (below_step (by repeat (first | (with_reducible first | exact HB.out | apply below_alloc | apply pw_below_drewN | apply below_drew1) | exact HB.out)) hb); clear HB; have HB := n0_; clear n0_; (try clear hb); (try clear hb2); (try clear hk); (try clear hi)))
                go_ret
                exact ⟨by first | rfl | (simp [errW_none, errW_some] <;> rfl) | (simp [*, errW_none, errW_some] <;> rfl), by repeat (first | (with_reducible first | exact HB.out | apply below_alloc | apply pw_below_drewN | apply below_drew1) | exact HB.out)⟩
            · rw [if_neg c65] at H
              have c65b0 : (t156.toList == a0.toList) = false := beq_eq_false_iff_ne.mpr c65
              have c65b1 : (t156.toList != a0.toList) = true := bne_iff_ne.mpr c65
              obtain rfl := Option.some.inj H
              go_wp2_with (first | (go_at_call 11; (with_reducible refine (escape_Html.calls a0 t156 _ A64.out).mono ?_); rintro e w74 ⟨rfl, hb⟩; have n0_ := Aside0.mk (below_step (by repeat (first | (with_reducible first | exact HB.out | apply below_alloc | apply pw_below_drewN | apply below_drew1) | exact HB.out)) hb); clear HB; have HB := n0_; clear n0_; (try clear hb); (try clear hb2); (try clear hk); (try clear hi)))
              go_ret
              exact ⟨by first | rfl | (simp [errW_none, errW_some] <;> rfl) | (simp [*, errW_none, errW_some] <;> rfl), by repeat (first | (with_reducible first | exact HB.out | apply below_alloc | apply pw_below_drewN | apply below_drew1) | exact HB.out)⟩
          · replace c63 := Bool.eq_false_iff.mpr c63
            subst c63
            have H1 : (some false) = some r := by rw [if_neg (show ¬ (false = true) by decide)] at H; exact H
            clear H
            have H := H1
            clear H1
            obtain rfl := Option.some.inj H
            go_wp2
            go_ret
            exact ⟨by first | rfl | (simp [errW_none, errW_some] <;> rfl) | (simp [*, errW_none, errW_some] <;> rfl), by repeat (first | (with_reducible first | exact HB.out | apply below_alloc | apply pw_below_drewN | apply below_drew1) | exact HB.out)⟩

end Go.Proofs.YtinpchebcnkckaaGreatDoor.PA
