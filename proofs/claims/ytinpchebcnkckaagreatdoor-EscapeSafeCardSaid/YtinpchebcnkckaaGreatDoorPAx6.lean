-- printed by the kit's printer, turned by a program of this session (wip/tools/mkprint.py)
import Derived.Test.YtinpchebcnkckaaGreatDoorPAx0
import Derived.Test.YtinpchebcnkckaaGreatDoorPAx1
import Derived.Test.YtinpchebcnkckaaGreatDoorGLib
import Derived.Test.YtinpchebcnkckaaGreatDoorGMax
import Derived.Test.YtinpchebcnkckaaGreatDoorGBody
import Derived.Test.YtinpchebcnkckaaGreatDoorGRefTab
import Derived.Test.YtinpchebcnkckaaGreatDoorGPunct
import Derived.Test.YtinpchebcnkckaaGreatDoorGHtml
import Derived.Test.YtinpchebcnkckaaGreatDoorGHref
import Derived.Test.YtinpchebcnkckaaGreatDoorGUnesc
namespace Go.Proofs.YtinpchebcnkckaaGreatDoor.PA
open Go.RowKit Go.Proofs.YtinpchebcnkckaaGreatDoorW.PrintWords Go.Proofs.YtinpchebcnkckaaGreatDoorW.PrintLast Go.Proofs.YtinpchebcnkckaaGreatDoorW.PrintMore
attribute [local go_sem] max2_int min2_int max_two min_two max_three min_three max_four min_four   -- for this text's walks alone
set_option linter.unusedVariables false
set_option linter.unusedSimpArgs false

/-! ### incipitlaw05_EscapeSafe: function 4 -/
mutual
def incipitlaw05_EscapeSafe.l0 : Nat → ByteArray → Bool → ByteArray → Int → Option (Bool)
  | 0, _, _, _, _ => none
  | k + 1, x0, x3, x4, x5 => if x5 < (x4.size : Int) then (if 0 ≤ x5 then (if (bt x4 x5) = 60 then (incipitlaw05_EscapeSafe.j1 k x0 x3 x4 x5 true) else (if (bt x4 x5) = 62 then (incipitlaw05_EscapeSafe.j1 k x0 x3 x4 x5 true) else (incipitlaw05_EscapeSafe.j1 k x0 x3 x4 x5 ((bt x4 x5) == 34)))) else (none)) else ((escape_Href.f x0).bind fun t132 => (incipitlaw05_EscapeSafe.l1 k x0 x3 x4 t132 0))
def incipitlaw05_EscapeSafe.j1 : Nat → ByteArray → Bool → ByteArray → Int → Bool → Option (Bool)
  | 0, _, _, _, _, _ => none
  | k + 1, x0, x3, x4, x5, x36 => if x36 = true then (some false) else (if 0 ≤ x5 then (if x5 < (x4.size : Int) then (if (bt x4 x5) = 38 then (if x5 ≤ (mn (x4.size : Int) (wrap64 (x5 + 5))) then (if (mn (x4.size : Int) (wrap64 (x5 + 5))) ≤ (x4.size : Int) then (if (x4.extract (x5 : Int).toNat ((mn (x4.size : Int) (wrap64 (x5 + 5))) : Int).toNat).toList = ([38, 97, 109, 112, 59] : List UInt8) then (incipitlaw05_EscapeSafe.l0 k x0 x3 x4 (wrap64 (x5 + 1))) else (if x5 ≤ (mn (x4.size : Int) (wrap64 (x5 + 4))) then (if (mn (x4.size : Int) (wrap64 (x5 + 4))) ≤ (x4.size : Int) then (if (x4.extract (x5 : Int).toNat ((mn (x4.size : Int) (wrap64 (x5 + 4))) : Int).toNat).toList = ([38, 108, 116, 59] : List UInt8) then (incipitlaw05_EscapeSafe.l0 k x0 x3 x4 (wrap64 (x5 + 1))) else (if (x4.extract (x5 : Int).toNat ((mn (x4.size : Int) (wrap64 (x5 + 4))) : Int).toNat).toList = ([38, 103, 116, 59] : List UInt8) then (incipitlaw05_EscapeSafe.l0 k x0 x3 x4 (wrap64 (x5 + 1))) else (if x5 ≤ (mn (x4.size : Int) (wrap64 (x5 + 6))) then (if (mn (x4.size : Int) (wrap64 (x5 + 6))) ≤ (x4.size : Int) then (if (x4.extract (x5 : Int).toNat ((mn (x4.size : Int) (wrap64 (x5 + 6))) : Int).toNat).toList = ([38, 113, 117, 111, 116, 59] : List UInt8) then (incipitlaw05_EscapeSafe.l0 k x0 x3 x4 (wrap64 (x5 + 1))) else (some false)) else (none)) else (none)))) else (none)) else (none))) else (none)) else (none)) else (incipitlaw05_EscapeSafe.l0 k x0 x3 x4 (wrap64 (x5 + 1)))) else (none)) else (none))
def incipitlaw05_EscapeSafe.l1 : Nat → ByteArray → Bool → ByteArray → ByteArray → Int → Option (Bool)
  | 0, _, _, _, _, _ => none
  | k + 1, x0, x3, x4, x6, x7 => if x7 < (x6.size : Int) then (if 0 ≤ x7 then (if (bt x6 x7) ≤ 32 then (some false) else (if (bt x6 x7) > 126 then (some false) else (if (bt x6 x7) = 60 then (some false) else (if (bt x6 x7) = 62 then (some false) else (if (bt x6 x7) = 34 then (some false) else (if (bt x6 x7) = 39 then (some false) else (if (bt x6 x7) = 92 then (some false) else (incipitlaw05_EscapeSafe.l1 k x0 x3 x4 x6 (wrap64 (x7 + 1)))))))))) else (none)) else (if x3 = true then (if (x4.size : Int) ≥ (x0.size : Int) then (some (decide ((x6.size : Int) ≥ (x0.size : Int)))) else (some false)) else (some false))
end
def incipitlaw05_EscapeSafe.f (k : Nat) (a0 : ByteArray) : Option (Bool) := (incipitlaw05_awake.f).bind fun t130 => (if (a0.size : Int) > 2000 then (some t130) else ((escape_Html.f a0).bind fun t131 => (incipitlaw05_EscapeSafe.l0 k a0 t130 t131 0)))
theorem incipitlaw05_EscapeSafe.mono_l : ∀ k, (∀ y0 y1 y2 y3, LeO (incipitlaw05_EscapeSafe.l0 k y0 y1 y2 y3) (incipitlaw05_EscapeSafe.l0 (k + 1) y0 y1 y2 y3)) ∧ (∀ y0 y1 y2 y3 y4, LeO (incipitlaw05_EscapeSafe.j1 k y0 y1 y2 y3 y4) (incipitlaw05_EscapeSafe.j1 (k + 1) y0 y1 y2 y3 y4)) ∧ (∀ y0 y1 y2 y3 y4, LeO (incipitlaw05_EscapeSafe.l1 k y0 y1 y2 y3 y4) (incipitlaw05_EscapeSafe.l1 (k + 1) y0 y1 y2 y3 y4))
  | 0 => ⟨fun _ _ _ _ r h => by simp [incipitlaw05_EscapeSafe.l0] at h, fun _ _ _ _ _ r h => by simp [incipitlaw05_EscapeSafe.j1] at h, fun _ _ _ _ _ r h => by simp [incipitlaw05_EscapeSafe.l1] at h⟩
  | k + 1 => by
    obtain ⟨ih0, ih1, ih2⟩ := incipitlaw05_EscapeSafe.mono_l k
    refine ⟨?_, ?_, ?_⟩
    · intro y0 y1 y2 y3
      unfold incipitlaw05_EscapeSafe.l0
      repeat' first
      | (with_reducible exact ih0 _ _ _ _)
      | (with_reducible exact ih1 _ _ _ _ _)
      | (with_reducible exact ih2 _ _ _ _ _)
      | (with_reducible exact LeO.refl _)
      | (with_reducible exact LeO.none _)
      | (with_reducible refine LeO.ite ?_ ?_)
      | (with_reducible refine LeO.bind ?_ (fun _ => ?_))
      | exact ih0 _ _ _ _
      | exact ih1 _ _ _ _ _
      | exact ih2 _ _ _ _ _
      | exact LeO.none _
      | refine LeO.ite ?_ ?_
      | refine LeO.bind ?_ (fun _ => ?_)
    · intro y0 y1 y2 y3 y4
      unfold incipitlaw05_EscapeSafe.j1
      repeat' first
      | (with_reducible exact ih0 _ _ _ _)
      | (with_reducible exact ih1 _ _ _ _ _)
      | (with_reducible exact ih2 _ _ _ _ _)
      | (with_reducible exact LeO.refl _)
      | (with_reducible exact LeO.none _)
      | (with_reducible refine LeO.ite ?_ ?_)
      | (with_reducible refine LeO.bind ?_ (fun _ => ?_))
      | exact ih0 _ _ _ _
      | exact ih1 _ _ _ _ _
      | exact ih2 _ _ _ _ _
      | exact LeO.none _
      | refine LeO.ite ?_ ?_
      | refine LeO.bind ?_ (fun _ => ?_)
    · intro y0 y1 y2 y3 y4
      unfold incipitlaw05_EscapeSafe.l1
      repeat' first
      | (with_reducible exact ih0 _ _ _ _)
      | (with_reducible exact ih1 _ _ _ _ _)
      | (with_reducible exact ih2 _ _ _ _ _)
      | (with_reducible exact LeO.refl _)
      | (with_reducible exact LeO.none _)
      | (with_reducible refine LeO.ite ?_ ?_)
      | (with_reducible refine LeO.bind ?_ (fun _ => ?_))
      | exact ih0 _ _ _ _
      | exact ih1 _ _ _ _ _
      | exact ih2 _ _ _ _ _
      | exact LeO.none _
      | refine LeO.ite ?_ ?_
      | refine LeO.bind ?_ (fun _ => ?_)
theorem incipitlaw05_EscapeSafe.mono : ∀ a0 k, LeO (incipitlaw05_EscapeSafe.f k a0) (incipitlaw05_EscapeSafe.f (k + 1) a0) := by
  intro a0 k
  obtain ⟨ih0, ih1, ih2⟩ := incipitlaw05_EscapeSafe.mono_l k
  unfold incipitlaw05_EscapeSafe.f
  repeat' first
      | (with_reducible exact ih0 _ _ _ _)
      | (with_reducible exact ih1 _ _ _ _ _)
      | (with_reducible exact ih2 _ _ _ _ _)
      | (with_reducible exact LeO.refl _)
      | (with_reducible exact LeO.none _)
      | (with_reducible refine LeO.ite ?_ ?_)
      | (with_reducible refine LeO.bind ?_ (fun _ => ?_))
      | exact ih0 _ _ _ _
      | exact ih1 _ _ _ _ _
      | exact ih2 _ _ _ _ _
      | exact LeO.none _
      | refine LeO.ite ?_ ?_
      | refine LeO.bind ?_ (fun _ => ?_)
set_option maxHeartbeats 8000000 in
set_option maxRecDepth 100000 in
theorem incipitlaw05_EscapeSafe.calls (k : Nat) (a0 : ByteArray) (r : Bool) (w : World) (hLd : Laid w) (h : incipitlaw05_EscapeSafe.f k a0 = some r) :
    Calls Tryz.prog 4 #[.string a0] w fun e w' => e = .returned (.bool r) ∧ Below w.heap.size w w' := by
  have HB := Aside0.mk (Below.refl w.heap.size w)
  have H : ((incipitlaw05_awake.f).bind fun t130 => (if (a0.size : Int) > 2000 then (some t130) else ((escape_Html.f a0).bind fun t131 => (incipitlaw05_EscapeSafe.l0 k a0 t130 t131 0)))) = some r := h
  clear h
  replace H := Option.bind_eq_some_iff.mp H
  obtain ⟨t130, A20, H⟩ := H
  replace H : (if (a0.size : Int) > 2000 then (some t130) else ((escape_Html.f a0).bind fun t131 => (incipitlaw05_EscapeSafe.l0 k a0 t130 t131 0))) = some r := H
  have A2 := Aside0.mk A20
  clear A20
  by_cases c3 : (a0.size : Int) > 2000
  · rw [if_pos c3] at H
    have c3b0 : decide (2000 < (a0.size : Int)) = true := decide_eq_true c3
    have c3b1 : decide (2000 < a0.size) = true := decide_eq_true (by omega)
    clear c3
    obtain rfl := Option.some.inj H
    go_enter Tryz.func4, Tryz.ntmps4
    go_wp2_with (first | ((with_reducible refine gate_callee (f := 10) rfl ?_); refine goesL_ (some 8) rfl rfl Tryz.func10 (by kernel_rfl) rfl #[] rfl (by (try simp only [List.map_toArray, List.map_cons, List.map_nil]); first | done | rfl | (simp only [List.length_drop, List.length_take]; rfl)) ?_; (with_reducible refine (incipitlaw05_awake.calls  t130 _ ?side1 A2.out).mono ?_); (case side1 => exact Laid.go hLd (by repeat (first | (with_reducible first | exact HB.out | apply below_alloc | apply pw_below_drewN | apply below_drew1) | exact HB.out))); rintro e w4 ⟨rfl, hb⟩; refine ⟨_, rfl, ?_⟩; have n0_ := Aside0.mk (below_step (by repeat (first | (with_reducible first | exact HB.out | apply below_alloc | apply pw_below_drewN | apply below_drew1) | exact HB.out)) hb); clear HB; have HB := n0_; clear n0_; (try clear hb); (try clear hb2); (try clear hk); (try clear hi)))
    go_ret
    exact ⟨by first | rfl | (simp [errW_none, errW_some] <;> rfl) | (simp [*, errW_none, errW_some] <;> rfl), by repeat (first | (with_reducible first | exact HB.out | apply below_alloc | apply pw_below_drewN | apply below_drew1) | exact HB.out)⟩
  · rw [if_neg c3] at H
    have c3b0 : decide (2000 < (a0.size : Int)) = false := decide_eq_false c3
    have c3b1 : decide (2000 < a0.size) = false := decide_eq_false (by omega)
    clear c3
    replace H := Option.bind_eq_some_iff.mp H
    obtain ⟨t131, A50, H⟩ := H
    replace H : (incipitlaw05_EscapeSafe.l0 k a0 t130 t131 0) = some r := H
    have A5 := Aside0.mk A50
    clear A50
    have H' := Aside0.mk H
    clear H
    go_enter Tryz.func4, Tryz.ntmps4
    go_wp2_with (first | ((with_reducible refine gate_callee (f := 10) rfl ?_); refine goesL_ (some 8) rfl rfl Tryz.func10 (by kernel_rfl) rfl #[] rfl (by (try simp only [List.map_toArray, List.map_cons, List.map_nil]); first | done | rfl | (simp only [List.length_drop, List.length_take]; rfl)) ?_; (with_reducible refine (incipitlaw05_awake.calls  t130 _ ?side1 A2.out).mono ?_); (case side1 => exact Laid.go hLd (by repeat (first | (with_reducible first | exact HB.out | apply below_alloc | apply pw_below_drewN | apply below_drew1) | exact HB.out))); rintro e w6 ⟨rfl, hb⟩; refine ⟨_, rfl, ?_⟩; have n0_ := Aside0.mk (below_step (by repeat (first | (with_reducible first | exact HB.out | apply below_alloc | apply pw_below_drewN | apply below_drew1) | exact HB.out)) hb); clear HB; have HB := n0_; clear n0_; (try clear hb); (try clear hb2); (try clear hk); (try clear hi)) | ((with_reducible refine gate_callee (f := 11) rfl ?_); refine goesL_ (some 14) rfl rfl Tryz.func11 (by kernel_rfl) rfl #[.string a0] rfl (by (try simp only [List.map_toArray, List.map_cons, List.map_nil]); first | done | rfl | (simp only [List.length_drop, List.length_take]; rfl)) ?_; (with_reducible refine (escape_Html.calls a0 t131 _ A5.out).mono ?_); rintro e w7 ⟨rfl, hb⟩; refine ⟨_, rfl, ?_⟩; have n0_ := Aside0.mk (below_step (by repeat (first | (with_reducible first | exact HB.out | apply below_alloc | apply pw_below_drewN | apply below_drew1) | exact HB.out)) hb); clear HB; have HB := n0_; clear n0_; (try clear hb); (try clear hb2); (try clear hk); (try clear hi)))
    go_loopg [5] k (fun kq v5 w' => ∃ (x5_1 : Int), v5 = .int .i64 x5_1 ∧ Aside0 (incipitlaw05_EscapeSafe.l0 kq a0 t130 t131 x5_1 = some r) ∧ Aside0 (kq ≤ k) ∧ Aside0 (Below w.heap.size w w'))
    case atStart => exact ⟨(0), (by first | rfl | (simp; done) | (simp [*]; done)), H', ⟨Nat.le_refl _⟩, ⟨by repeat (first | (with_reducible first | exact HB.out | apply below_alloc | apply pw_below_drewN | apply below_drew1) | exact HB.out)⟩⟩
    case round =>
      clear H'
      try clear c1
      try clear p2
      try clear c3
      try clear c3b0
      try clear c3b1
      try clear c4
      obtain ⟨x5_1, rfl, HA, HK1, HB⟩ := hrel
      cases gk with
      | zero => exact absurd HA.out (by simp [incipitlaw05_EscapeSafe.l0])
      | succ k1 =>
        have H := HA.out
        clear HA
        simp only [incipitlaw05_EscapeSafe.l0] at H
        by_cases c8 : x5_1 < (t131.size : Int)
        · rw [if_pos c8] at H
          have c8b0 : decide (x5_1 < (t131.size : Int)) = true := decide_eq_true c8
          clear c8
          have HC9 := Aside0.mk H
          clear H
          go_upto_region 8 with (fail)
          go_cut [36] (fun v36 wc => ∃ (kq : Nat) (x36_8 : Bool), v36 = .bool x36_8 ∧ Aside0 (incipitlaw05_EscapeSafe.j1 kq a0 t130 t131 x5_1 x36_8 = some r) ∧ Aside0 (kq ≤ k1) ∧ Aside0 (Below w.heap.size w wc))
          case first =>
            have H := HC9.out
            clear HC9
            by_cases c10 : 0 ≤ x5_1
            · rw [if_pos c10] at H
              have c10b0 : decide (0 ≤ x5_1) = true := decide_eq_true c10
              clear c10
              (first | rw [c10b0] | (simp only [i64_w, i32_w]; rw [c10b0]) | skip)
              by_cases c12 : (bt t131 x5_1) = 60
              · rw [if_pos c12] at H
                have c12b0 : ((bt t131 x5_1) == 60) = true := beq_iff_eq.mpr c12
                have c12b1 : ((bt t131 x5_1) != 60) = false := bne_eq_false_iff_eq.mpr c12
                clear c12
                have H' := Aside0.mk H
                clear H
                have p11 : 0 ≤ (x5_1 : Int) := of_decide_eq_true (by first | (with_reducible assumption) | assumption)
                have q11 : x5_1 < (t131.size : Int) := of_decide_eq_true (by first | (with_reducible assumption) | assumption)
                have hx11 := bt_at t131 x5_1
                replace p11 := eq_true p11
                replace q11 := eq_true q11
                go_wp2
                go_meet
                case rel => exact ⟨_, (true), (by first | rfl | (simp; done) | (simp [*]; done)), H', ⟨by have := HK1.out; first | omega | exact Nat.le_refl _⟩, ⟨by repeat (first | (with_reducible first | exact HB.out | apply below_alloc | apply pw_below_drewN | apply below_drew1) | exact HB.out)⟩⟩
              · rw [if_neg c12] at H
                have c12b0 : ((bt t131 x5_1) == 60) = false := beq_eq_false_iff_ne.mpr c12
                have c12b1 : ((bt t131 x5_1) != 60) = true := bne_iff_ne.mpr c12
                by_cases c14 : (bt t131 x5_1) = 62
                · rw [if_pos c14] at H
                  have c14b0 : ((bt t131 x5_1) == 62) = true := beq_iff_eq.mpr c14
                  have c14b1 : ((bt t131 x5_1) != 62) = false := bne_eq_false_iff_eq.mpr c14
                  clear c14
                  have H' := Aside0.mk H
                  clear H
                  have p11 : 0 ≤ (x5_1 : Int) := of_decide_eq_true (by first | (with_reducible assumption) | assumption)
                  have q11 : x5_1 < (t131.size : Int) := of_decide_eq_true (by first | (with_reducible assumption) | assumption)
                  have hx11 := bt_at t131 x5_1
                  replace p11 := eq_true p11
                  replace q11 := eq_true q11
                  have p13 : 0 ≤ (x5_1 : Int) := of_decide_eq_true (by first | (with_reducible assumption) | assumption)
                  have q13 : x5_1 < (t131.size : Int) := of_decide_eq_true (by first | (with_reducible assumption) | assumption)
                  have hx13 := bt_at t131 x5_1
                  replace p13 := eq_true p13
                  replace q13 := eq_true q13
                  go_wp2
                  go_meet
                  case rel => exact ⟨_, (true), (by first | rfl | (simp; done) | (simp [*]; done)), H', ⟨by have := HK1.out; first | omega | exact Nat.le_refl _⟩, ⟨by repeat (first | (with_reducible first | exact HB.out | apply below_alloc | apply pw_below_drewN | apply below_drew1) | exact HB.out)⟩⟩
                · rw [if_neg c14] at H
                  have c14b0 : ((bt t131 x5_1) == 62) = false := beq_eq_false_iff_ne.mpr c14
                  have c14b1 : ((bt t131 x5_1) != 62) = true := bne_iff_ne.mpr c14
                  have H' := Aside0.mk H
                  clear H
                  have p11 : 0 ≤ (x5_1 : Int) := of_decide_eq_true (by first | (with_reducible assumption) | assumption)
                  have q11 : x5_1 < (t131.size : Int) := of_decide_eq_true (by first | (with_reducible assumption) | assumption)
                  have hx11 := bt_at t131 x5_1
                  replace p11 := eq_true p11
                  replace q11 := eq_true q11
                  have p13 : 0 ≤ (x5_1 : Int) := of_decide_eq_true (by first | (with_reducible assumption) | assumption)
                  have q13 : x5_1 < (t131.size : Int) := of_decide_eq_true (by first | (with_reducible assumption) | assumption)
                  have hx13 := bt_at t131 x5_1
                  replace p13 := eq_true p13
                  replace q13 := eq_true q13
                  have p15 : 0 ≤ (x5_1 : Int) := of_decide_eq_true (by first | (with_reducible assumption) | assumption)
                  have q15 : x5_1 < (t131.size : Int) := of_decide_eq_true (by first | (with_reducible assumption) | assumption)
                  have hx15 := bt_at t131 x5_1
                  replace p15 := eq_true p15
                  replace q15 := eq_true q15
                  go_wp2
                  go_meet
                  case rel => exact ⟨_, (((bt t131 x5_1) == 34)), (by first | rfl | (simp; done) | (simp [*]; done)), H', ⟨by have := HK1.out; first | omega | exact Nat.le_refl _⟩, ⟨by repeat (first | (with_reducible first | exact HB.out | apply below_alloc | apply pw_below_drewN | apply below_drew1) | exact HB.out)⟩⟩
            · rw [if_neg c10] at H
              exact absurd H (by simp)
          case rest =>
            clear HC9
            try clear c1
            try clear p1
            try clear q1
            try clear hx1
            try clear p2
            try clear c3
            try clear c3b0
            try clear c3b1
            try clear c4
            try clear c8
            try clear c8b0
            try clear c10
            try clear c10b0
            try clear c11
            try clear p11
            try clear q11
            try clear hx11
            try clear c12
            try clear c12b0
            try clear c12b1
            try clear p13
            try clear q13
            try clear hx13
            try clear c14
            try clear c14b0
            try clear c14b1
            try clear p15
            try clear q15
            try clear hx15
            try clear p11
            try clear p13
            try clear p15
            try clear p2
            try clear q11
            try clear q13
            try clear q15
            obtain ⟨kq, x36_8, rfl, HA, HJ8, HB⟩ := hcut
            cases kq with
            | zero => exact absurd HA.out (by simp [incipitlaw05_EscapeSafe.j1])
            | succ kj8 =>
              have H := HA.out
              clear HA
              simp only [incipitlaw05_EscapeSafe.j1] at H
              by_cases c16 : x36_8 = true
              · subst c16
                have H1 : (some false) = some r := by rw [if_pos rfl] at H; exact H
                clear H
                have H := H1
                clear H1
                obtain rfl := Option.some.inj H
                go_wp2
                go_ret
                exact ⟨by first | rfl | (simp [errW_none, errW_some] <;> rfl) | (simp [*, errW_none, errW_some] <;> rfl), by repeat (first | (with_reducible first | exact HB.out | apply below_alloc | apply pw_below_drewN | apply below_drew1) | exact HB.out)⟩
              · replace c16 := Bool.eq_false_iff.mpr c16
                subst c16
                have H1 : (if 0 ≤ x5_1 then (if x5_1 < (t131.size : Int) then (if (bt t131 x5_1) = 38 then (if x5_1 ≤ (mn (t131.size : Int) (wrap64 (x5_1 + 5))) then (if (mn (t131.size : Int) (wrap64 (x5_1 + 5))) ≤ (t131.size : Int) then (if (t131.extract (x5_1 : Int).toNat ((mn (t131.size : Int) (wrap64 (x5_1 + 5))) : Int).toNat).toList = ([38, 97, 109, 112, 59] : List UInt8) then (incipitlaw05_EscapeSafe.l0 kj8 a0 t130 t131 (wrap64 (x5_1 + 1))) else (if x5_1 ≤ (mn (t131.size : Int) (wrap64 (x5_1 + 4))) then (if (mn (t131.size : Int) (wrap64 (x5_1 + 4))) ≤ (t131.size : Int) then (if (t131.extract (x5_1 : Int).toNat ((mn (t131.size : Int) (wrap64 (x5_1 + 4))) : Int).toNat).toList = ([38, 108, 116, 59] : List UInt8) then (incipitlaw05_EscapeSafe.l0 kj8 a0 t130 t131 (wrap64 (x5_1 + 1))) else (if (t131.extract (x5_1 : Int).toNat ((mn (t131.size : Int) (wrap64 (x5_1 + 4))) : Int).toNat).toList = ([38, 103, 116, 59] : List UInt8) then (incipitlaw05_EscapeSafe.l0 kj8 a0 t130 t131 (wrap64 (x5_1 + 1))) else (if x5_1 ≤ (mn (t131.size : Int) (wrap64 (x5_1 + 6))) then (if (mn (t131.size : Int) (wrap64 (x5_1 + 6))) ≤ (t131.size : Int) then (if (t131.extract (x5_1 : Int).toNat ((mn (t131.size : Int) (wrap64 (x5_1 + 6))) : Int).toNat).toList = ([38, 113, 117, 111, 116, 59] : List UInt8) then (incipitlaw05_EscapeSafe.l0 kj8 a0 t130 t131 (wrap64 (x5_1 + 1))) else (some false)) else (none)) else (none)))) else (none)) else (none))) else (none)) else (none)) else (incipitlaw05_EscapeSafe.l0 kj8 a0 t130 t131 (wrap64 (x5_1 + 1)))) else (none)) else (none)) = some r := by rw [if_neg (show ¬ (false = true) by decide)] at H; exact H
                clear H
                have H := H1
                clear H1
                by_cases c17 : 0 ≤ x5_1
                · rw [if_pos c17] at H
                  have c17b0 : decide (0 ≤ x5_1) = true := decide_eq_true c17
                  clear c17
                  by_cases c18 : x5_1 < (t131.size : Int)
                  · rw [if_pos c18] at H
                    have c18b0 : decide (x5_1 < (t131.size : Int)) = true := decide_eq_true c18
                    clear c18
                    by_cases c20 : (bt t131 x5_1) = 38
                    · rw [if_pos c20] at H
                      have c20b0 : ((bt t131 x5_1) == 38) = true := beq_iff_eq.mpr c20
                      have c20b1 : ((bt t131 x5_1) != 38) = false := bne_eq_false_iff_eq.mpr c20
                      clear c20
                      obtain ⟨ji21, hji21⟩ : ∃ j_ : Int, (mn (t131.size : Int) (wrap64 (x5_1 + 5))) = j_ := ⟨_, rfl⟩
                      replace H : (if x5_1 ≤ (ji21) then (if (ji21) ≤ (t131.size : Int) then (if (t131.extract (x5_1 : Int).toNat ((ji21) : Int).toNat).toList = ([38, 97, 109, 112, 59] : List UInt8) then (incipitlaw05_EscapeSafe.l0 kj8 a0 t130 t131 (wrap64 (x5_1 + 1))) else (if x5_1 ≤ (mn (t131.size : Int) (wrap64 (x5_1 + 4))) then (if (mn (t131.size : Int) (wrap64 (x5_1 + 4))) ≤ (t131.size : Int) then (if (t131.extract (x5_1 : Int).toNat ((mn (t131.size : Int) (wrap64 (x5_1 + 4))) : Int).toNat).toList = ([38, 108, 116, 59] : List UInt8) then (incipitlaw05_EscapeSafe.l0 kj8 a0 t130 t131 (wrap64 (x5_1 + 1))) else (if (t131.extract (x5_1 : Int).toNat ((mn (t131.size : Int) (wrap64 (x5_1 + 4))) : Int).toNat).toList = ([38, 103, 116, 59] : List UInt8) then (incipitlaw05_EscapeSafe.l0 kj8 a0 t130 t131 (wrap64 (x5_1 + 1))) else (if x5_1 ≤ (mn (t131.size : Int) (wrap64 (x5_1 + 6))) then (if (mn (t131.size : Int) (wrap64 (x5_1 + 6))) ≤ (t131.size : Int) then (if (t131.extract (x5_1 : Int).toNat ((mn (t131.size : Int) (wrap64 (x5_1 + 6))) : Int).toNat).toList = ([38, 113, 117, 111, 116, 59] : List UInt8) then (incipitlaw05_EscapeSafe.l0 kj8 a0 t130 t131 (wrap64 (x5_1 + 1))) else (some false)) else (none)) else (none)))) else (none)) else (none))) else (none)) else (none)) = some r := by first | (rw [hji21] at H; exact H) | (simp only [hji21] at H ⊢; exact H)
                      have hji21_ : (if (wrap64 (x5_1 + 5)) < (t131.size : Int) then (wrap64 (x5_1 + 5)) else (t131.size : Int)) = ji21 := hji21
                      have c22b0 := eq_true (of_decide_eq_true (by first | (with_reducible assumption) | assumption) : 0 ≤ x5_1)
                      by_cases c23 : x5_1 ≤ (ji21)
                      · rw [if_pos c23] at H
                        have c23b0 := eq_true c23
                        have c23b1 : decide (x5_1 ≤ (ji21)) = true := decide_eq_true c23
                        clear c23
                        by_cases c24 : (ji21) ≤ (t131.size : Int)
                        · rw [if_pos c24] at H
                          have c24b0 := eq_true c24
                          have c24b1 : decide ((ji21) ≤ (t131.size : Int)) = true := decide_eq_true c24
                          clear c24
                          by_cases c25 : (t131.extract (x5_1 : Int).toNat ((ji21) : Int).toNat).toList = ([38, 97, 109, 112, 59] : List UInt8)
                          · rw [if_pos c25] at H
                            have c25b0 : ((t131.extract (x5_1 : Int).toNat ((ji21) : Int).toNat).toList == ([38, 97, 109, 112, 59] : List UInt8)) = true := beq_iff_eq.mpr c25
                            have c25b1 : ((t131.extract (x5_1 : Int).toNat ((ji21) : Int).toNat).toList != ([38, 97, 109, 112, 59] : List UInt8)) = false := bne_eq_false_iff_eq.mpr c25
                            clear c25
                            have H' := Aside0.mk H
                            clear H
                            have p19 : 0 ≤ (x5_1 : Int) := of_decide_eq_true (by first | (with_reducible assumption) | assumption)
                            have q19 : x5_1 < (t131.size : Int) := of_decide_eq_true (by first | (with_reducible assumption) | assumption)
                            have hx19 := bt_at t131 x5_1
                            replace p19 := eq_true p19
                            replace q19 := eq_true q19
                            go_wp2
                            go_roundg kj8
                            case measure => have := HK1.out; have := HJ8.out; omega
                            case rel => exact ⟨(wrap64 (x5_1 + 1)), (by first | rfl | (simp; done) | (simp [*]; done)), H', ⟨by have := HK1.out; have := HJ8.out; omega⟩, ⟨by repeat (first | (with_reducible first | exact HB.out | apply below_alloc | apply pw_below_drewN | apply below_drew1) | exact HB.out)⟩⟩
                          · rw [if_neg c25] at H
                            have c25b0 : ((t131.extract (x5_1 : Int).toNat ((ji21) : Int).toNat).toList == ([38, 97, 109, 112, 59] : List UInt8)) = false := beq_eq_false_iff_ne.mpr c25
                            have c25b1 : ((t131.extract (x5_1 : Int).toNat ((ji21) : Int).toNat).toList != ([38, 97, 109, 112, 59] : List UInt8)) = true := bne_iff_ne.mpr c25
                            obtain ⟨ji26, hji26⟩ : ∃ j_ : Int, (mn (t131.size : Int) (wrap64 (x5_1 + 4))) = j_ := ⟨_, rfl⟩
                            replace H : (if x5_1 ≤ (ji26) then (if (ji26) ≤ (t131.size : Int) then (if (t131.extract (x5_1 : Int).toNat ((ji26) : Int).toNat).toList = ([38, 108, 116, 59] : List UInt8) then (incipitlaw05_EscapeSafe.l0 kj8 a0 t130 t131 (wrap64 (x5_1 + 1))) else (if (t131.extract (x5_1 : Int).toNat ((ji26) : Int).toNat).toList = ([38, 103, 116, 59] : List UInt8) then (incipitlaw05_EscapeSafe.l0 kj8 a0 t130 t131 (wrap64 (x5_1 + 1))) else (if x5_1 ≤ (mn (t131.size : Int) (wrap64 (x5_1 + 6))) then (if (mn (t131.size : Int) (wrap64 (x5_1 + 6))) ≤ (t131.size : Int) then (if (t131.extract (x5_1 : Int).toNat ((mn (t131.size : Int) (wrap64 (x5_1 + 6))) : Int).toNat).toList = ([38, 113, 117, 111, 116, 59] : List UInt8) then (incipitlaw05_EscapeSafe.l0 kj8 a0 t130 t131 (wrap64 (x5_1 + 1))) else (some false)) else (none)) else (none)))) else (none)) else (none)) = some r := by first | (rw [hji26] at H; exact H) | (simp only [hji26] at H ⊢; exact H)
                            have hji26_ : (if (wrap64 (x5_1 + 4)) < (t131.size : Int) then (wrap64 (x5_1 + 4)) else (t131.size : Int)) = ji26 := hji26
                            have c27b0 := eq_true (of_decide_eq_true (by first | (with_reducible assumption) | assumption) : 0 ≤ x5_1)
                            by_cases c28 : x5_1 ≤ (ji26)
                            · rw [if_pos c28] at H
                              have c28b0 := eq_true c28
                              have c28b1 : decide (x5_1 ≤ (ji26)) = true := decide_eq_true c28
                              clear c28
                              by_cases c29 : (ji26) ≤ (t131.size : Int)
                              · rw [if_pos c29] at H
                                have c29b0 := eq_true c29
                                have c29b1 : decide ((ji26) ≤ (t131.size : Int)) = true := decide_eq_true c29
                                clear c29
                                by_cases c30 : (t131.extract (x5_1 : Int).toNat ((ji26) : Int).toNat).toList = ([38, 108, 116, 59] : List UInt8)
                                · rw [if_pos c30] at H
                                  have c30b0 : ((t131.extract (x5_1 : Int).toNat ((ji26) : Int).toNat).toList == ([38, 108, 116, 59] : List UInt8)) = true := beq_iff_eq.mpr c30
                                  have c30b1 : ((t131.extract (x5_1 : Int).toNat ((ji26) : Int).toNat).toList != ([38, 108, 116, 59] : List UInt8)) = false := bne_eq_false_iff_eq.mpr c30
                                  clear c30
                                  have H' := Aside0.mk H
                                  clear H
                                  have p19 : 0 ≤ (x5_1 : Int) := of_decide_eq_true (by first | (with_reducible assumption) | assumption)
                                  have q19 : x5_1 < (t131.size : Int) := of_decide_eq_true (by first | (with_reducible assumption) | assumption)
                                  have hx19 := bt_at t131 x5_1
                                  replace p19 := eq_true p19
                                  replace q19 := eq_true q19
                                  go_wp2
                                  go_roundg kj8
                                  case measure => have := HK1.out; have := HJ8.out; omega
                                  case rel => exact ⟨(wrap64 (x5_1 + 1)), (by first | rfl | (simp; done) | (simp [*]; done)), H', ⟨by have := HK1.out; have := HJ8.out; omega⟩, ⟨by repeat (first | (with_reducible first | exact HB.out | apply below_alloc | apply pw_below_drewN | apply below_drew1) | exact HB.out)⟩⟩
                                · rw [if_neg c30] at H
                                  have c30b0 : ((t131.extract (x5_1 : Int).toNat ((ji26) : Int).toNat).toList == ([38, 108, 116, 59] : List UInt8)) = false := beq_eq_false_iff_ne.mpr c30
                                  have c30b1 : ((t131.extract (x5_1 : Int).toNat ((ji26) : Int).toNat).toList != ([38, 108, 116, 59] : List UInt8)) = true := bne_iff_ne.mpr c30
                                  have c32b0 := eq_true (of_decide_eq_true (by first | (with_reducible assumption) | assumption) : 0 ≤ x5_1)
                                  have c33b0 := eq_true (of_decide_eq_true (by first | (with_reducible assumption) | assumption) : x5_1 ≤ (ji26))
                                  have c34b0 := eq_true (of_decide_eq_true (by first | (with_reducible assumption) | assumption) : (ji26) ≤ (t131.size : Int))
                                  by_cases c35 : (t131.extract (x5_1 : Int).toNat ((ji26) : Int).toNat).toList = ([38, 103, 116, 59] : List UInt8)
                                  · rw [if_pos c35] at H
                                    have c35b0 : ((t131.extract (x5_1 : Int).toNat ((ji26) : Int).toNat).toList == ([38, 103, 116, 59] : List UInt8)) = true := beq_iff_eq.mpr c35
                                    have c35b1 : ((t131.extract (x5_1 : Int).toNat ((ji26) : Int).toNat).toList != ([38, 103, 116, 59] : List UInt8)) = false := bne_eq_false_iff_eq.mpr c35
                                    clear c35
                                    have H' := Aside0.mk H
                                    clear H
                                    have p19 : 0 ≤ (x5_1 : Int) := of_decide_eq_true (by first | (with_reducible assumption) | assumption)
                                    have q19 : x5_1 < (t131.size : Int) := of_decide_eq_true (by first | (with_reducible assumption) | assumption)
                                    have hx19 := bt_at t131 x5_1
                                    replace p19 := eq_true p19
                                    replace q19 := eq_true q19
                                    go_wp2
                                    go_roundg kj8
                                    case measure => have := HK1.out; have := HJ8.out; omega
                                    case rel => exact ⟨(wrap64 (x5_1 + 1)), (by first | rfl | (simp; done) | (simp [*]; done)), H', ⟨by have := HK1.out; have := HJ8.out; omega⟩, ⟨by repeat (first | (with_reducible first | exact HB.out | apply below_alloc | apply pw_below_drewN | apply below_drew1) | exact HB.out)⟩⟩
                                  · rw [if_neg c35] at H
                                    have c35b0 : ((t131.extract (x5_1 : Int).toNat ((ji26) : Int).toNat).toList == ([38, 103, 116, 59] : List UInt8)) = false := beq_eq_false_iff_ne.mpr c35
                                    have c35b1 : ((t131.extract (x5_1 : Int).toNat ((ji26) : Int).toNat).toList != ([38, 103, 116, 59] : List UInt8)) = true := bne_iff_ne.mpr c35
                                    obtain ⟨ji36, hji36⟩ : ∃ j_ : Int, (mn (t131.size : Int) (wrap64 (x5_1 + 6))) = j_ := ⟨_, rfl⟩
                                    replace H : (if x5_1 ≤ (ji36) then (if (ji36) ≤ (t131.size : Int) then (if (t131.extract (x5_1 : Int).toNat ((ji36) : Int).toNat).toList = ([38, 113, 117, 111, 116, 59] : List UInt8) then (incipitlaw05_EscapeSafe.l0 kj8 a0 t130 t131 (wrap64 (x5_1 + 1))) else (some false)) else (none)) else (none)) = some r := by first | (rw [hji36] at H; exact H) | (simp only [hji36] at H ⊢; exact H)
                                    have hji36_ : (if (wrap64 (x5_1 + 6)) < (t131.size : Int) then (wrap64 (x5_1 + 6)) else (t131.size : Int)) = ji36 := hji36
                                    have c37b0 := eq_true (of_decide_eq_true (by first | (with_reducible assumption) | assumption) : 0 ≤ x5_1)
                                    by_cases c38 : x5_1 ≤ (ji36)
                                    · rw [if_pos c38] at H
                                      have c38b0 := eq_true c38
                                      have c38b1 : decide (x5_1 ≤ (ji36)) = true := decide_eq_true c38
                                      clear c38
                                      by_cases c39 : (ji36) ≤ (t131.size : Int)
                                      · rw [if_pos c39] at H
                                        have c39b0 := eq_true c39
                                        have c39b1 : decide ((ji36) ≤ (t131.size : Int)) = true := decide_eq_true c39
                                        clear c39
                                        by_cases c40 : (t131.extract (x5_1 : Int).toNat ((ji36) : Int).toNat).toList = ([38, 113, 117, 111, 116, 59] : List UInt8)
                                        · rw [if_pos c40] at H
                                          have c40b0 : ((t131.extract (x5_1 : Int).toNat ((ji36) : Int).toNat).toList == ([38, 113, 117, 111, 116, 59] : List UInt8)) = true := beq_iff_eq.mpr c40
                                          have c40b1 : ((t131.extract (x5_1 : Int).toNat ((ji36) : Int).toNat).toList != ([38, 113, 117, 111, 116, 59] : List UInt8)) = false := bne_eq_false_iff_eq.mpr c40
                                          clear c40
                                          have H' := Aside0.mk H
                                          clear H
                                          have p19 : 0 ≤ (x5_1 : Int) := of_decide_eq_true (by first | (with_reducible assumption) | assumption)
                                          have q19 : x5_1 < (t131.size : Int) := of_decide_eq_true (by first | (with_reducible assumption) | assumption)
                                          have hx19 := bt_at t131 x5_1
                                          replace p19 := eq_true p19
                                          replace q19 := eq_true q19
                                          go_wp2
                                          go_roundg kj8
                                          case measure => have := HK1.out; have := HJ8.out; omega
                                          case rel => exact ⟨(wrap64 (x5_1 + 1)), (by first | rfl | (simp; done) | (simp [*]; done)), H', ⟨by have := HK1.out; have := HJ8.out; omega⟩, ⟨by repeat (first | (with_reducible first | exact HB.out | apply below_alloc | apply pw_below_drewN | apply below_drew1) | exact HB.out)⟩⟩
                                        · rw [if_neg c40] at H
                                          have c40b0 : ((t131.extract (x5_1 : Int).toNat ((ji36) : Int).toNat).toList == ([38, 113, 117, 111, 116, 59] : List UInt8)) = false := beq_eq_false_iff_ne.mpr c40
                                          have c40b1 : ((t131.extract (x5_1 : Int).toNat ((ji36) : Int).toNat).toList != ([38, 113, 117, 111, 116, 59] : List UInt8)) = true := bne_iff_ne.mpr c40
                                          obtain rfl := Option.some.inj H
                                          have p19 : 0 ≤ (x5_1 : Int) := of_decide_eq_true (by first | (with_reducible assumption) | assumption)
                                          have q19 : x5_1 < (t131.size : Int) := of_decide_eq_true (by first | (with_reducible assumption) | assumption)
                                          have hx19 := bt_at t131 x5_1
                                          replace p19 := eq_true p19
                                          replace q19 := eq_true q19
                                          go_wp2
                                          go_ret
                                          exact ⟨by first | rfl | (simp [errW_none, errW_some] <;> rfl) | (simp only [← hji21, ← hji26, ← hji36]; first | rfl | (simp [errW_none, errW_some] <;> rfl)) | (simp [*, errW_none, errW_some] <;> rfl), by repeat (first | (with_reducible first | exact HB.out | apply below_alloc | apply pw_below_drewN | apply below_drew1) | exact HB.out)⟩
                                      · rw [if_neg c39] at H
                                        exact absurd H (by simp)
                                    · rw [if_neg c38] at H
                                      exact absurd H (by simp)
                              · rw [if_neg c29] at H
                                exact absurd H (by simp)
                            · rw [if_neg c28] at H
                              exact absurd H (by simp)
                        · rw [if_neg c24] at H
                          exact absurd H (by simp)
                      · rw [if_neg c23] at H
                        exact absurd H (by simp)
                    · rw [if_neg c20] at H
                      have c20b0 : ((bt t131 x5_1) == 38) = false := beq_eq_false_iff_ne.mpr c20
                      have c20b1 : ((bt t131 x5_1) != 38) = true := bne_iff_ne.mpr c20
                      have H' := Aside0.mk H
                      clear H
                      have p19 : 0 ≤ (x5_1 : Int) := of_decide_eq_true (by first | (with_reducible assumption) | assumption)
                      have q19 : x5_1 < (t131.size : Int) := of_decide_eq_true (by first | (with_reducible assumption) | assumption)
                      have hx19 := bt_at t131 x5_1
                      replace p19 := eq_true p19
                      replace q19 := eq_true q19
                      go_wp2
                      go_roundg kj8
                      case measure => have := HK1.out; have := HJ8.out; omega
                      case rel => exact ⟨(wrap64 (x5_1 + 1)), (by first | rfl | (simp; done) | (simp [*]; done)), H', ⟨by have := HK1.out; have := HJ8.out; omega⟩, ⟨by repeat (first | (with_reducible first | exact HB.out | apply below_alloc | apply pw_below_drewN | apply below_drew1) | exact HB.out)⟩⟩
                  · rw [if_neg c18] at H
                    exact absurd H (by simp)
                · rw [if_neg c17] at H
                  exact absurd H (by simp)
        · rw [if_neg c8] at H
          have c8b0 : decide (x5_1 < (t131.size : Int)) = false := decide_eq_false c8
          clear c8
          replace H := Option.bind_eq_some_iff.mp H
          obtain ⟨t132, A410, H⟩ := H
          replace H : (incipitlaw05_EscapeSafe.l1 k1 a0 t130 t131 t132 0) = some r := H
          have A41 := Aside0.mk A410
          clear A410
          have H' := Aside0.mk H
          clear H
          go_wp2_with (first | ((with_reducible refine gate_callee (f := 13) rfl ?_); refine goesL_ (some 86) rfl rfl Tryz.func13 (by kernel_rfl) rfl #[.string a0] rfl (by (try simp only [List.map_toArray, List.map_cons, List.map_nil]); first | done | rfl | (simp only [List.length_drop, List.length_take]; rfl)) ?_; (with_reducible refine (escape_Href.calls a0 t132 _ A41.out).mono ?_); rintro e w42 ⟨rfl, hb⟩; refine ⟨_, rfl, ?_⟩; have n0_ := Aside0.mk (below_step (by repeat (first | (with_reducible first | exact HB.out | apply below_alloc | apply pw_below_drewN | apply below_drew1) | exact HB.out)) hb); clear HB; have HB := n0_; clear n0_; (try clear hb); (try clear hb2); (try clear hk); (try clear hi)))
          go_loopg [7] k1 (fun kq v7 w' => ∃ (x7_2 : Int), v7 = .int .i64 x7_2 ∧ Aside0 (incipitlaw05_EscapeSafe.l1 kq a0 t130 t131 t132 x7_2 = some r) ∧ Aside0 (kq ≤ k1) ∧ Aside0 (Below w.heap.size w w'))
          case atStart => exact ⟨(0), (by first | rfl | (simp; done) | (simp [*]; done)), H', ⟨Nat.le_refl _⟩, ⟨by repeat (first | (with_reducible first | exact HB.out | apply below_alloc | apply pw_below_drewN | apply below_drew1) | exact HB.out)⟩⟩
          case round =>
            clear H'
            try clear c1
            try clear p1
            try clear q1
            try clear hx1
            try clear c2
            try clear p2
            try clear c3
            try clear c3b0
            try clear c3b1
            try clear c4
            try clear p6
            try clear c8
            try clear c8b0
            try clear c10
            try clear c10b0
            try clear c11
            try clear p11
            try clear q11
            try clear hx11
            try clear c12
            try clear c12b0
            try clear c12b1
            try clear c13
            try clear p13
            try clear q13
            try clear hx13
            try clear c14
            try clear c14b0
            try clear c14b1
            try clear p15
            try clear q15
            try clear hx15
            try clear c16
            try clear c17
            try clear c17b0
            try clear c18
            try clear c18b0
            try clear p19
            try clear q19
            try clear hx19
            try clear c20
            try clear c20b0
            try clear c20b1
            try clear c22
            try clear c22b0
            try clear c23
            try clear c23b0
            try clear c23b1
            try clear c24
            try clear c24b0
            try clear c24b1
            try clear c25
            try clear c25b0
            try clear c25b1
            try clear c27
            try clear c27b0
            try clear c28
            try clear c28b0
            try clear c28b1
            try clear c29
            try clear c29b0
            try clear c29b1
            try clear c30
            try clear c30b0
            try clear c30b1
            try clear c31
            try clear c31b0
            try clear c32
            try clear c32b0
            try clear c33
            try clear c33b0
            try clear c34
            try clear c34b0
            try clear c35
            try clear c35b0
            try clear c35b1
            try clear c37
            try clear c37b0
            try clear c38
            try clear c38b0
            try clear c38b1
            try clear c39
            try clear c39b0
            try clear c39b1
            try clear c40
            try clear c40b0
            try clear c40b1
            try clear p1
            try clear p11
            try clear p13
            try clear p15
            try clear p19
            try clear p2
            try clear q1
            try clear q11
            try clear q13
            try clear q15
            try clear q19
            obtain ⟨x7_2, rfl, HA, HK2, HB⟩ := hrel
            cases gk with
            | zero => exact absurd HA.out (by simp [incipitlaw05_EscapeSafe.l1])
            | succ k2 =>
              have H := HA.out
              clear HA
              simp only [incipitlaw05_EscapeSafe.l1] at H
              by_cases c43 : x7_2 < (t132.size : Int)
              · rw [if_pos c43] at H
                have c43b0 : decide (x7_2 < (t132.size : Int)) = true := decide_eq_true c43
                clear c43
                by_cases c44 : 0 ≤ x7_2
                · rw [if_pos c44] at H
                  have c44b0 : decide (0 ≤ x7_2) = true := decide_eq_true c44
                  clear c44
                  by_cases c46 : (bt t132 x7_2) ≤ 32
                  · rw [if_pos c46] at H
                    have c46b0 : decide ((bt t132 x7_2) ≤ 32) = true := decide_eq_true c46
                    clear c46
                    obtain rfl := Option.some.inj H
                    have p45 : 0 ≤ (x7_2 : Int) := of_decide_eq_true (by first | (with_reducible assumption) | assumption)
                    have q45 : x7_2 < (t132.size : Int) := of_decide_eq_true (by first | (with_reducible assumption) | assumption)
                    have hx45 := bt_at t132 x7_2
                    replace p45 := eq_true p45
                    replace q45 := eq_true q45
                    go_wp2
                    go_ret
                    exact ⟨by first | rfl | (simp [errW_none, errW_some] <;> rfl) | (simp [*, errW_none, errW_some] <;> rfl), by repeat (first | (with_reducible first | exact HB.out | apply below_alloc | apply pw_below_drewN | apply below_drew1) | exact HB.out)⟩
                  · rw [if_neg c46] at H
                    have c46b0 : decide ((bt t132 x7_2) ≤ 32) = false := decide_eq_false c46
                    clear c46
                    by_cases c48 : (bt t132 x7_2) > 126
                    · rw [if_pos c48] at H
                      have c48b0 : decide (126 < (bt t132 x7_2)) = true := decide_eq_true c48
                      clear c48
                      obtain rfl := Option.some.inj H
                      have p45 : 0 ≤ (x7_2 : Int) := of_decide_eq_true (by first | (with_reducible assumption) | assumption)
                      have q45 : x7_2 < (t132.size : Int) := of_decide_eq_true (by first | (with_reducible assumption) | assumption)
                      have hx45 := bt_at t132 x7_2
                      replace p45 := eq_true p45
                      replace q45 := eq_true q45
                      have p47 : 0 ≤ (x7_2 : Int) := of_decide_eq_true (by first | (with_reducible assumption) | assumption)
                      have q47 : x7_2 < (t132.size : Int) := of_decide_eq_true (by first | (with_reducible assumption) | assumption)
                      have hx47 := bt_at t132 x7_2
                      replace p47 := eq_true p47
                      replace q47 := eq_true q47
                      go_wp2
                      go_ret
                      exact ⟨by first | rfl | (simp [errW_none, errW_some] <;> rfl) | (simp [*, errW_none, errW_some] <;> rfl), by repeat (first | (with_reducible first | exact HB.out | apply below_alloc | apply pw_below_drewN | apply below_drew1) | exact HB.out)⟩
                    · rw [if_neg c48] at H
                      have c48b0 : decide (126 < (bt t132 x7_2)) = false := decide_eq_false c48
                      clear c48
                      by_cases c50 : (bt t132 x7_2) = 60
                      · rw [if_pos c50] at H
                        have c50b0 : ((bt t132 x7_2) == 60) = true := beq_iff_eq.mpr c50
                        have c50b1 : ((bt t132 x7_2) != 60) = false := bne_eq_false_iff_eq.mpr c50
                        clear c50
                        obtain rfl := Option.some.inj H
                        have p45 : 0 ≤ (x7_2 : Int) := of_decide_eq_true (by first | (with_reducible assumption) | assumption)
                        have q45 : x7_2 < (t132.size : Int) := of_decide_eq_true (by first | (with_reducible assumption) | assumption)
                        have hx45 := bt_at t132 x7_2
                        replace p45 := eq_true p45
                        replace q45 := eq_true q45
                        have p47 : 0 ≤ (x7_2 : Int) := of_decide_eq_true (by first | (with_reducible assumption) | assumption)
                        have q47 : x7_2 < (t132.size : Int) := of_decide_eq_true (by first | (with_reducible assumption) | assumption)
                        have hx47 := bt_at t132 x7_2
                        replace p47 := eq_true p47
                        replace q47 := eq_true q47
                        have p49 : 0 ≤ (x7_2 : Int) := of_decide_eq_true (by first | (with_reducible assumption) | assumption)
                        have q49 : x7_2 < (t132.size : Int) := of_decide_eq_true (by first | (with_reducible assumption) | assumption)
                        have hx49 := bt_at t132 x7_2
                        replace p49 := eq_true p49
                        replace q49 := eq_true q49
                        go_wp2
                        go_ret
                        exact ⟨by first | rfl | (simp [errW_none, errW_some] <;> rfl) | (simp [*, errW_none, errW_some] <;> rfl), by repeat (first | (with_reducible first | exact HB.out | apply below_alloc | apply pw_below_drewN | apply below_drew1) | exact HB.out)⟩
                      · rw [if_neg c50] at H
                        have c50b0 : ((bt t132 x7_2) == 60) = false := beq_eq_false_iff_ne.mpr c50
                        have c50b1 : ((bt t132 x7_2) != 60) = true := bne_iff_ne.mpr c50
                        by_cases c52 : (bt t132 x7_2) = 62
                        · rw [if_pos c52] at H
                          have c52b0 : ((bt t132 x7_2) == 62) = true := beq_iff_eq.mpr c52
                          have c52b1 : ((bt t132 x7_2) != 62) = false := bne_eq_false_iff_eq.mpr c52
                          clear c52
                          obtain rfl := Option.some.inj H
                          have p45 : 0 ≤ (x7_2 : Int) := of_decide_eq_true (by first | (with_reducible assumption) | assumption)
                          have q45 : x7_2 < (t132.size : Int) := of_decide_eq_true (by first | (with_reducible assumption) | assumption)
                          have hx45 := bt_at t132 x7_2
                          replace p45 := eq_true p45
                          replace q45 := eq_true q45
                          have p47 : 0 ≤ (x7_2 : Int) := of_decide_eq_true (by first | (with_reducible assumption) | assumption)
                          have q47 : x7_2 < (t132.size : Int) := of_decide_eq_true (by first | (with_reducible assumption) | assumption)
                          have hx47 := bt_at t132 x7_2
                          replace p47 := eq_true p47
                          replace q47 := eq_true q47
                          have p49 : 0 ≤ (x7_2 : Int) := of_decide_eq_true (by first | (with_reducible assumption) | assumption)
                          have q49 : x7_2 < (t132.size : Int) := of_decide_eq_true (by first | (with_reducible assumption) | assumption)
                          have hx49 := bt_at t132 x7_2
                          replace p49 := eq_true p49
                          replace q49 := eq_true q49
                          have p51 : 0 ≤ (x7_2 : Int) := of_decide_eq_true (by first | (with_reducible assumption) | assumption)
                          have q51 : x7_2 < (t132.size : Int) := of_decide_eq_true (by first | (with_reducible assumption) | assumption)
                          have hx51 := bt_at t132 x7_2
                          replace p51 := eq_true p51
                          replace q51 := eq_true q51
                          go_wp2
                          go_ret
                          exact ⟨by first | rfl | (simp [errW_none, errW_some] <;> rfl) | (simp [*, errW_none, errW_some] <;> rfl), by repeat (first | (with_reducible first | exact HB.out | apply below_alloc | apply pw_below_drewN | apply below_drew1) | exact HB.out)⟩
                        · rw [if_neg c52] at H
                          have c52b0 : ((bt t132 x7_2) == 62) = false := beq_eq_false_iff_ne.mpr c52
                          have c52b1 : ((bt t132 x7_2) != 62) = true := bne_iff_ne.mpr c52
                          by_cases c54 : (bt t132 x7_2) = 34
                          · rw [if_pos c54] at H
                            have c54b0 : ((bt t132 x7_2) == 34) = true := beq_iff_eq.mpr c54
                            have c54b1 : ((bt t132 x7_2) != 34) = false := bne_eq_false_iff_eq.mpr c54
                            clear c54
                            obtain rfl := Option.some.inj H
                            have p45 : 0 ≤ (x7_2 : Int) := of_decide_eq_true (by first | (with_reducible assumption) | assumption)
                            have q45 : x7_2 < (t132.size : Int) := of_decide_eq_true (by first | (with_reducible assumption) | assumption)
                            have hx45 := bt_at t132 x7_2
                            replace p45 := eq_true p45
                            replace q45 := eq_true q45
                            have p47 : 0 ≤ (x7_2 : Int) := of_decide_eq_true (by first | (with_reducible assumption) | assumption)
                            have q47 : x7_2 < (t132.size : Int) := of_decide_eq_true (by first | (with_reducible assumption) | assumption)
                            have hx47 := bt_at t132 x7_2
                            replace p47 := eq_true p47
                            replace q47 := eq_true q47
                            have p49 : 0 ≤ (x7_2 : Int) := of_decide_eq_true (by first | (with_reducible assumption) | assumption)
                            have q49 : x7_2 < (t132.size : Int) := of_decide_eq_true (by first | (with_reducible assumption) | assumption)
                            have hx49 := bt_at t132 x7_2
                            replace p49 := eq_true p49
                            replace q49 := eq_true q49
                            have p51 : 0 ≤ (x7_2 : Int) := of_decide_eq_true (by first | (with_reducible assumption) | assumption)
                            have q51 : x7_2 < (t132.size : Int) := of_decide_eq_true (by first | (with_reducible assumption) | assumption)
                            have hx51 := bt_at t132 x7_2
                            replace p51 := eq_true p51
                            replace q51 := eq_true q51
                            have p53 : 0 ≤ (x7_2 : Int) := of_decide_eq_true (by first | (with_reducible assumption) | assumption)
                            have q53 : x7_2 < (t132.size : Int) := of_decide_eq_true (by first | (with_reducible assumption) | assumption)
                            have hx53 := bt_at t132 x7_2
                            replace p53 := eq_true p53
                            replace q53 := eq_true q53
                            go_wp2
                            go_ret
                            exact ⟨by first | rfl | (simp [errW_none, errW_some] <;> rfl) | (simp [*, errW_none, errW_some] <;> rfl), by repeat (first | (with_reducible first | exact HB.out | apply below_alloc | apply pw_below_drewN | apply below_drew1) | exact HB.out)⟩
                          · rw [if_neg c54] at H
                            have c54b0 : ((bt t132 x7_2) == 34) = false := beq_eq_false_iff_ne.mpr c54
                            have c54b1 : ((bt t132 x7_2) != 34) = true := bne_iff_ne.mpr c54
                            by_cases c56 : (bt t132 x7_2) = 39
                            · rw [if_pos c56] at H
                              have c56b0 : ((bt t132 x7_2) == 39) = true := beq_iff_eq.mpr c56
                              have c56b1 : ((bt t132 x7_2) != 39) = false := bne_eq_false_iff_eq.mpr c56
                              clear c56
                              obtain rfl := Option.some.inj H
                              have p45 : 0 ≤ (x7_2 : Int) := of_decide_eq_true (by first | (with_reducible assumption) | assumption)
                              have q45 : x7_2 < (t132.size : Int) := of_decide_eq_true (by first | (with_reducible assumption) | assumption)
                              have hx45 := bt_at t132 x7_2
                              replace p45 := eq_true p45
                              replace q45 := eq_true q45
                              have p47 : 0 ≤ (x7_2 : Int) := of_decide_eq_true (by first | (with_reducible assumption) | assumption)
                              have q47 : x7_2 < (t132.size : Int) := of_decide_eq_true (by first | (with_reducible assumption) | assumption)
                              have hx47 := bt_at t132 x7_2
                              replace p47 := eq_true p47
                              replace q47 := eq_true q47
                              have p49 : 0 ≤ (x7_2 : Int) := of_decide_eq_true (by first | (with_reducible assumption) | assumption)
                              have q49 : x7_2 < (t132.size : Int) := of_decide_eq_true (by first | (with_reducible assumption) | assumption)
                              have hx49 := bt_at t132 x7_2
                              replace p49 := eq_true p49
                              replace q49 := eq_true q49
                              have p51 : 0 ≤ (x7_2 : Int) := of_decide_eq_true (by first | (with_reducible assumption) | assumption)
                              have q51 : x7_2 < (t132.size : Int) := of_decide_eq_true (by first | (with_reducible assumption) | assumption)
                              have hx51 := bt_at t132 x7_2
                              replace p51 := eq_true p51
                              replace q51 := eq_true q51
                              have p53 : 0 ≤ (x7_2 : Int) := of_decide_eq_true (by first | (with_reducible assumption) | assumption)
                              have q53 : x7_2 < (t132.size : Int) := of_decide_eq_true (by first | (with_reducible assumption) | assumption)
                              have hx53 := bt_at t132 x7_2
                              replace p53 := eq_true p53
                              replace q53 := eq_true q53
                              have p55 : 0 ≤ (x7_2 : Int) := of_decide_eq_true (by first | (with_reducible assumption) | assumption)
                              have q55 : x7_2 < (t132.size : Int) := of_decide_eq_true (by first | (with_reducible assumption) | assumption)
                              have hx55 := bt_at t132 x7_2
                              replace p55 := eq_true p55
                              replace q55 := eq_true q55
                              go_wp2
                              go_ret
                              exact ⟨by first | rfl | (simp [errW_none, errW_some] <;> rfl) | (simp [*, errW_none, errW_some] <;> rfl), by repeat (first | (with_reducible first | exact HB.out | apply below_alloc | apply pw_below_drewN | apply below_drew1) | exact HB.out)⟩
                            · rw [if_neg c56] at H
                              have c56b0 : ((bt t132 x7_2) == 39) = false := beq_eq_false_iff_ne.mpr c56
                              have c56b1 : ((bt t132 x7_2) != 39) = true := bne_iff_ne.mpr c56
                              by_cases c58 : (bt t132 x7_2) = 92
                              · rw [if_pos c58] at H
                                have c58b0 : ((bt t132 x7_2) == 92) = true := beq_iff_eq.mpr c58
                                have c58b1 : ((bt t132 x7_2) != 92) = false := bne_eq_false_iff_eq.mpr c58
                                clear c58
                                obtain rfl := Option.some.inj H
                                have p45 : 0 ≤ (x7_2 : Int) := of_decide_eq_true (by first | (with_reducible assumption) | assumption)
                                have q45 : x7_2 < (t132.size : Int) := of_decide_eq_true (by first | (with_reducible assumption) | assumption)
                                have hx45 := bt_at t132 x7_2
                                replace p45 := eq_true p45
                                replace q45 := eq_true q45
                                have p47 : 0 ≤ (x7_2 : Int) := of_decide_eq_true (by first | (with_reducible assumption) | assumption)
                                have q47 : x7_2 < (t132.size : Int) := of_decide_eq_true (by first | (with_reducible assumption) | assumption)
                                have hx47 := bt_at t132 x7_2
                                replace p47 := eq_true p47
                                replace q47 := eq_true q47
                                have p49 : 0 ≤ (x7_2 : Int) := of_decide_eq_true (by first | (with_reducible assumption) | assumption)
                                have q49 : x7_2 < (t132.size : Int) := of_decide_eq_true (by first | (with_reducible assumption) | assumption)
                                have hx49 := bt_at t132 x7_2
                                replace p49 := eq_true p49
                                replace q49 := eq_true q49
                                have p51 : 0 ≤ (x7_2 : Int) := of_decide_eq_true (by first | (with_reducible assumption) | assumption)
                                have q51 : x7_2 < (t132.size : Int) := of_decide_eq_true (by first | (with_reducible assumption) | assumption)
                                have hx51 := bt_at t132 x7_2
                                replace p51 := eq_true p51
                                replace q51 := eq_true q51
                                have p53 : 0 ≤ (x7_2 : Int) := of_decide_eq_true (by first | (with_reducible assumption) | assumption)
                                have q53 : x7_2 < (t132.size : Int) := of_decide_eq_true (by first | (with_reducible assumption) | assumption)
                                have hx53 := bt_at t132 x7_2
                                replace p53 := eq_true p53
                                replace q53 := eq_true q53
                                have p55 : 0 ≤ (x7_2 : Int) := of_decide_eq_true (by first | (with_reducible assumption) | assumption)
                                have q55 : x7_2 < (t132.size : Int) := of_decide_eq_true (by first | (with_reducible assumption) | assumption)
                                have hx55 := bt_at t132 x7_2
                                replace p55 := eq_true p55
                                replace q55 := eq_true q55
                                have p57 : 0 ≤ (x7_2 : Int) := of_decide_eq_true (by first | (with_reducible assumption) | assumption)
                                have q57 : x7_2 < (t132.size : Int) := of_decide_eq_true (by first | (with_reducible assumption) | assumption)
                                have hx57 := bt_at t132 x7_2
                                replace p57 := eq_true p57
                                replace q57 := eq_true q57
                                go_wp2
                                go_ret
                                exact ⟨by first | rfl | (simp [errW_none, errW_some] <;> rfl) | (simp [*, errW_none, errW_some] <;> rfl), by repeat (first | (with_reducible first | exact HB.out | apply below_alloc | apply pw_below_drewN | apply below_drew1) | exact HB.out)⟩
                              · rw [if_neg c58] at H
                                have c58b0 : ((bt t132 x7_2) == 92) = false := beq_eq_false_iff_ne.mpr c58
                                have c58b1 : ((bt t132 x7_2) != 92) = true := bne_iff_ne.mpr c58
                                have H' := Aside0.mk H
                                clear H
                                have p45 : 0 ≤ (x7_2 : Int) := of_decide_eq_true (by first | (with_reducible assumption) | assumption)
                                have q45 : x7_2 < (t132.size : Int) := of_decide_eq_true (by first | (with_reducible assumption) | assumption)
                                have hx45 := bt_at t132 x7_2
                                replace p45 := eq_true p45
                                replace q45 := eq_true q45
                                have p47 : 0 ≤ (x7_2 : Int) := of_decide_eq_true (by first | (with_reducible assumption) | assumption)
                                have q47 : x7_2 < (t132.size : Int) := of_decide_eq_true (by first | (with_reducible assumption) | assumption)
                                have hx47 := bt_at t132 x7_2
                                replace p47 := eq_true p47
                                replace q47 := eq_true q47
                                have p49 : 0 ≤ (x7_2 : Int) := of_decide_eq_true (by first | (with_reducible assumption) | assumption)
                                have q49 : x7_2 < (t132.size : Int) := of_decide_eq_true (by first | (with_reducible assumption) | assumption)
                                have hx49 := bt_at t132 x7_2
                                replace p49 := eq_true p49
                                replace q49 := eq_true q49
                                have p51 : 0 ≤ (x7_2 : Int) := of_decide_eq_true (by first | (with_reducible assumption) | assumption)
                                have q51 : x7_2 < (t132.size : Int) := of_decide_eq_true (by first | (with_reducible assumption) | assumption)
                                have hx51 := bt_at t132 x7_2
                                replace p51 := eq_true p51
                                replace q51 := eq_true q51
                                have p53 : 0 ≤ (x7_2 : Int) := of_decide_eq_true (by first | (with_reducible assumption) | assumption)
                                have q53 : x7_2 < (t132.size : Int) := of_decide_eq_true (by first | (with_reducible assumption) | assumption)
                                have hx53 := bt_at t132 x7_2
                                replace p53 := eq_true p53
                                replace q53 := eq_true q53
                                have p55 : 0 ≤ (x7_2 : Int) := of_decide_eq_true (by first | (with_reducible assumption) | assumption)
                                have q55 : x7_2 < (t132.size : Int) := of_decide_eq_true (by first | (with_reducible assumption) | assumption)
                                have hx55 := bt_at t132 x7_2
                                replace p55 := eq_true p55
                                replace q55 := eq_true q55
                                have p57 : 0 ≤ (x7_2 : Int) := of_decide_eq_true (by first | (with_reducible assumption) | assumption)
                                have q57 : x7_2 < (t132.size : Int) := of_decide_eq_true (by first | (with_reducible assumption) | assumption)
                                have hx57 := bt_at t132 x7_2
                                replace p57 := eq_true p57
                                replace q57 := eq_true q57
                                go_wp2
                                go_roundg k2
                                case measure => have := HK1.out; have := HK2.out; omega
                                case rel => exact ⟨(wrap64 (x7_2 + 1)), (by first | rfl | (simp; done) | (simp [*]; done)), H', ⟨by have := HK1.out; have := HK2.out; omega⟩, ⟨by repeat (first | (with_reducible first | exact HB.out | apply below_alloc | apply pw_below_drewN | apply below_drew1) | exact HB.out)⟩⟩
                · rw [if_neg c44] at H
                  exact absurd H (by simp)
              · rw [if_neg c43] at H
                have c43b0 : decide (x7_2 < (t132.size : Int)) = false := decide_eq_false c43
                clear c43
                by_cases c59 : t130 = true
                · subst c59
                  have H1 : (if (t131.size : Int) ≥ (a0.size : Int) then (some (decide ((t132.size : Int) ≥ (a0.size : Int)))) else (some false)) = some r := by rw [if_pos rfl] at H; exact H
                  clear H
                  have H := H1
                  clear H1
                  by_cases c60 : (t131.size : Int) ≥ (a0.size : Int)
                  · rw [if_pos c60] at H
                    have c60b0 : decide ((a0.size : Int) ≤ (t131.size : Int)) = true := decide_eq_true c60
                    have c60b1 : decide (a0.size ≤ t131.size) = true := decide_eq_true (Int.ofNat_le.mp c60)
                    clear c60
                    obtain rfl := Option.some.inj H
                    go_wp2
                    go_ret
                    exact ⟨by first | rfl | (simp [errW_none, errW_some] <;> rfl) | (simp [*, errW_none, errW_some] <;> rfl), by repeat (first | (with_reducible first | exact HB.out | apply below_alloc | apply pw_below_drewN | apply below_drew1) | exact HB.out)⟩
                  · rw [if_neg c60] at H
                    have c60b0 : decide ((a0.size : Int) ≤ (t131.size : Int)) = false := decide_eq_false c60
                    have c60b1 : decide (a0.size ≤ t131.size) = false := decide_eq_false (fun h => c60 (Int.ofNat_le.mpr h))
                    clear c60
                    obtain rfl := Option.some.inj H
                    go_wp2
                    go_ret
                    exact ⟨by first | rfl | (simp [errW_none, errW_some] <;> rfl) | (simp [*, errW_none, errW_some] <;> rfl), by repeat (first | (with_reducible first | exact HB.out | apply below_alloc | apply pw_below_drewN | apply below_drew1) | exact HB.out)⟩
                · replace c59 := Bool.eq_false_iff.mpr c59
                  subst c59
                  have H1 : (some false) = some r := by rw [if_neg (show ¬ (false = true) by decide)] at H; exact H
                  clear H
                  have H := H1
                  clear H1
                  obtain rfl := Option.some.inj H
                  go_wp2
                  go_ret
                  exact ⟨by first | rfl | (simp [errW_none, errW_some] <;> rfl) | (simp [*, errW_none, errW_some] <;> rfl), by repeat (first | (with_reducible first | exact HB.out | apply below_alloc | apply pw_below_drewN | apply below_drew1) | exact HB.out)⟩

end Go.Proofs.YtinpchebcnkckaaGreatDoor.PA
