/-
  Texts of the proof of RegistryOrder, part 2 of 6: contracts and plain laws. Conditions: see each statement.
-/
import Derived.Test.YtfhgdjajifnfiaaSRegistryOrder1
set_option linter.unusedVariables false
namespace Go.Proofs.Ytfhgdjajifnfiaa.PA
open Go.RowKit Go.Proofs.YtfhgdjajifnfiaaW.PrintWords Go.Proofs.YtfhgdjajifnfiaaW.PrintLast Go.Proofs.YtfhgdjajifnfiaaW.PrintMore
attribute [local go_sem] max2_int min2_int max_two min_two max_three min_three max_four min_four   -- for this text's walks alone
set_option linter.unusedVariables false
set_option linter.unusedSimpArgs false

/-! ### incipitref07_Same: function 27 -/
def incipitref07_Same.l0 : Nat → List (S27) → List (S27) → Int → Option (Bool)
  | 0, _, _, _ => none
  | k + 1, x0, x1, x5 => if x5 < (x0.length : Int) then (if 0 ≤ x5 then (if x5 < (x1.length : Int) then (if ((rd_T27 x0 x5).f0).toList = ((rd_T27 x1 x5).f0).toList then (if ((rd_T27 x0 x5).f1) = ((rd_T27 x1 x5).f1) then (if ((rd_T27 x0 x5).f2) = ((rd_T27 x1 x5).f2) then (if ((rd_T27 x0 x5).f3).toList = ((rd_T27 x1 x5).f3).toList then (if ((rd_T27 x0 x5).f4) = ((rd_T27 x1 x5).f4) then (incipitref07_Same.l0 k x0 x1 (wrap64 (x5 + 1))) else (some false)) else (some false)) else (some false)) else (some false)) else (some false)) else (none)) else (none)) else (some true)
def incipitref07_Same.f (k : Nat) (l0 : List (S27)) (l1 : List (S27)) : Option (Bool) := if (l0.length : Int) = (l1.length : Int) then (incipitref07_Same.l0 k l0 l1 0) else (some false)
set_option maxHeartbeats 8000000 in
set_option maxRecDepth 100000 in
theorem incipitref07_Same.calls (k : Nat) (A0 : Option Addr) (c0 : Nat) (l0 : List (S27)) (A1 : Option Addr) (c1 : Nat) (l1 : List (S27)) (r : Bool) (w : World) (hr0 : Kd.C k27 w A0 l0.length l0) (hc0 : l0.length ≤ c0) (hr1 : Kd.C k27 w A1 l1.length l1) (hc1 : l1.length ≤ c1) (h : incipitref07_Same.f k l0 l1 = some r) :
    Calls Try.prog 27 #[.slice A0 l0.length c0, .slice A1 l1.length c1] w fun e w' => e = .returned (.bool r) ∧ Drawn0 w w' := by
  have HR0 := Aside0.mk hr0
  have HC0 := Aside0.mk hc0
  clear hr0 hc0
  have HR1 := Aside0.mk hr1
  have HC1 := Aside0.mk hc1
  clear hr1 hc1
  have H : (if (l0.length : Int) = (l1.length : Int) then (incipitref07_Same.l0 k l0 l1 0) else (some false)) = some r := h
  clear h
  by_cases c3 : (l0.length : Int) = (l1.length : Int)
  · rw [if_pos c3] at H
    have c3b0 : ((l0.length : Int) == (l1.length : Int)) = true := beq_iff_eq.mpr c3
    have c3b1 : ((l0.length : Int) != (l1.length : Int)) = false := bne_eq_false_iff_eq.mpr c3
    have c3b2 : (l0.length == l1.length) = true := by first | simpa using c3 | (simp at c3 ⊢; omega)
    clear c3
    have H' := Aside0.mk H
    clear H
    go_enter Try.func27, Try.ntmps27
    go_wp2
    repeat (go_quiet (fail); try go_wp2)
    go_loopg [5] k (fun kq v5 w' => ∃ (x5_1 : Int), v5 = .int .i64 x5_1 ∧ Aside0 (incipitref07_Same.l0 kq l0 l1 x5_1 = some r) ∧ Aside0 (kq ≤ k) ∧ Drawn0 w w')
    case atStart => exact ⟨(0), (by first | rfl | (simp; done) | (simp [*]; done)), H', ⟨Nat.le_refl _⟩, by repeat (first | exact Drawn0.refl _ | apply Drawn0.step)⟩
    case round =>
      clear H'
      try clear c1
      try clear c2
      try clear p2
      try clear c3
      try clear c3b0
      try clear c3b1
      try clear c3b2
      obtain ⟨x5_1, rfl, HA, HK1, ⟨m1, rfl⟩⟩ := hrel
      cases gk with
      | zero => exact absurd HA.out (by simp [incipitref07_Same.l0])
      | succ k1 =>
        have H := HA.out
        clear HA
        simp only [incipitref07_Same.l0] at H
        by_cases c4 : x5_1 < (l0.length : Int)
        · rw [if_pos c4] at H
          have c4b0 : decide (x5_1 < (l0.length : Int)) = true := decide_eq_true c4
          clear c4
          by_cases c5 : 0 ≤ x5_1
          · rw [if_pos c5] at H
            have c5b0 : decide (0 ≤ x5_1) = true := decide_eq_true c5
            clear c5
            by_cases c6 : x5_1 < (l1.length : Int)
            · rw [if_pos c6] at H
              have c6b0 : decide (x5_1 < (l1.length : Int)) = true := decide_eq_true c6
              clear c6
              by_cases c7 : ((rd_T27 l0 x5_1).f0).toList = ((rd_T27 l1 x5_1).f0).toList
              · rw [if_pos c7] at H
                have c7b0 : (((rd_T27 l0 x5_1).f0).toList == ((rd_T27 l1 x5_1).f0).toList) = true := beq_iff_eq.mpr c7
                have c7b1 : (((rd_T27 l0 x5_1).f0).toList != ((rd_T27 l1 x5_1).f0).toList) = false := bne_eq_false_iff_eq.mpr c7
                clear c7
                by_cases c8 : ((rd_T27 l0 x5_1).f1) = ((rd_T27 l1 x5_1).f1)
                · rw [if_pos c8] at H
                  have c8b0 : (((rd_T27 l0 x5_1).f1) == ((rd_T27 l1 x5_1).f1)) = true := beq_iff_eq.mpr c8
                  have c8b1 : (((rd_T27 l0 x5_1).f1) != ((rd_T27 l1 x5_1).f1)) = false := bne_eq_false_iff_eq.mpr c8
                  clear c8
                  by_cases c9 : ((rd_T27 l0 x5_1).f2) = ((rd_T27 l1 x5_1).f2)
                  · rw [if_pos c9] at H
                    have c9b0 : (((rd_T27 l0 x5_1).f2) == ((rd_T27 l1 x5_1).f2)) = true := beq_iff_eq.mpr c9
                    have c9b1 : (((rd_T27 l0 x5_1).f2) != ((rd_T27 l1 x5_1).f2)) = false := bne_eq_false_iff_eq.mpr c9
                    clear c9
                    by_cases c10 : ((rd_T27 l0 x5_1).f3).toList = ((rd_T27 l1 x5_1).f3).toList
                    · rw [if_pos c10] at H
                      have c10b0 : (((rd_T27 l0 x5_1).f3).toList == ((rd_T27 l1 x5_1).f3).toList) = true := beq_iff_eq.mpr c10
                      have c10b1 : (((rd_T27 l0 x5_1).f3).toList != ((rd_T27 l1 x5_1).f3).toList) = false := bne_eq_false_iff_eq.mpr c10
                      clear c10
                      by_cases c11 : ((rd_T27 l0 x5_1).f4) = ((rd_T27 l1 x5_1).f4)
                      · rw [if_pos c11] at H
                        have c11b0 : (((rd_T27 l0 x5_1).f4) == ((rd_T27 l1 x5_1).f4)) = true := beq_iff_eq.mpr c11
                        have c11b1 : (((rd_T27 l0 x5_1).f4) != ((rd_T27 l1 x5_1).f4)) = false := bne_eq_false_iff_eq.mpr c11
                        clear c11
                        have H' := Aside0.mk H
                        clear H
                        have p101 : 0 ≤ (x5_1 : Int) := of_decide_eq_true (by first | (with_reducible assumption) | assumption)
                        have q101 : x5_1 < (l0.length : Int) := of_decide_eq_true (by first | (with_reducible assumption) | assumption)
                        obtain ⟨ad101, e101, hx101_0, hx101_1, hx101_2, hx101_3, hx101_4⟩ := at_T27 HR0.out x5_1 p101 q101
                        cases e101
                        replace p101 := eq_true p101
                        replace q101 := eq_true q101
                        have p102 : 0 ≤ (x5_1 : Int) := of_decide_eq_true (by first | (with_reducible assumption) | assumption)
                        have q102 : x5_1 < (l1.length : Int) := of_decide_eq_true (by first | (with_reducible assumption) | assumption)
                        obtain ⟨ad102, e102, hx102_0, hx102_1, hx102_2, hx102_3, hx102_4⟩ := at_T27 HR1.out x5_1 p102 q102
                        cases e102
                        replace p102 := eq_true p102
                        replace q102 := eq_true q102
                        have p103 : 0 ≤ (x5_1 : Int) := of_decide_eq_true (by first | (with_reducible assumption) | assumption)
                        have q103 : x5_1 < (l0.length : Int) := of_decide_eq_true (by first | (with_reducible assumption) | assumption)
                        obtain ⟨ad103, e103, hx103_0, hx103_1, hx103_2, hx103_3, hx103_4⟩ := at_T27 HR0.out x5_1 p103 q103
                        obtain rfl : ad101 = ad103 := (by injection e103)
                        replace p103 := eq_true p103
                        replace q103 := eq_true q103
                        have p104 : 0 ≤ (x5_1 : Int) := of_decide_eq_true (by first | (with_reducible assumption) | assumption)
                        have q104 : x5_1 < (l1.length : Int) := of_decide_eq_true (by first | (with_reducible assumption) | assumption)
                        obtain ⟨ad104, e104, hx104_0, hx104_1, hx104_2, hx104_3, hx104_4⟩ := at_T27 HR1.out x5_1 p104 q104
                        obtain rfl : ad102 = ad104 := (by injection e104)
                        replace p104 := eq_true p104
                        replace q104 := eq_true q104
                        have p105 : 0 ≤ (x5_1 : Int) := of_decide_eq_true (by first | (with_reducible assumption) | assumption)
                        have q105 : x5_1 < (l0.length : Int) := of_decide_eq_true (by first | (with_reducible assumption) | assumption)
                        obtain ⟨ad105, e105, hx105_0, hx105_1, hx105_2, hx105_3, hx105_4⟩ := at_T27 HR0.out x5_1 p105 q105
                        obtain rfl : ad101 = ad105 := (by injection e105)
                        replace p105 := eq_true p105
                        replace q105 := eq_true q105
                        have p106 : 0 ≤ (x5_1 : Int) := of_decide_eq_true (by first | (with_reducible assumption) | assumption)
                        have q106 : x5_1 < (l1.length : Int) := of_decide_eq_true (by first | (with_reducible assumption) | assumption)
                        obtain ⟨ad106, e106, hx106_0, hx106_1, hx106_2, hx106_3, hx106_4⟩ := at_T27 HR1.out x5_1 p106 q106
                        obtain rfl : ad102 = ad106 := (by injection e106)
                        replace p106 := eq_true p106
                        replace q106 := eq_true q106
                        have p107 : 0 ≤ (x5_1 : Int) := of_decide_eq_true (by first | (with_reducible assumption) | assumption)
                        have q107 : x5_1 < (l0.length : Int) := of_decide_eq_true (by first | (with_reducible assumption) | assumption)
                        obtain ⟨ad107, e107, hx107_0, hx107_1, hx107_2, hx107_3, hx107_4⟩ := at_T27 HR0.out x5_1 p107 q107
                        obtain rfl : ad101 = ad107 := (by injection e107)
                        replace p107 := eq_true p107
                        replace q107 := eq_true q107
                        have p108 : 0 ≤ (x5_1 : Int) := of_decide_eq_true (by first | (with_reducible assumption) | assumption)
                        have q108 : x5_1 < (l1.length : Int) := of_decide_eq_true (by first | (with_reducible assumption) | assumption)
                        obtain ⟨ad108, e108, hx108_0, hx108_1, hx108_2, hx108_3, hx108_4⟩ := at_T27 HR1.out x5_1 p108 q108
                        obtain rfl : ad102 = ad108 := (by injection e108)
                        replace p108 := eq_true p108
                        replace q108 := eq_true q108
                        have p109 : 0 ≤ (x5_1 : Int) := of_decide_eq_true (by first | (with_reducible assumption) | assumption)
                        have q109 : x5_1 < (l0.length : Int) := of_decide_eq_true (by first | (with_reducible assumption) | assumption)
                        obtain ⟨ad109, e109, hx109_0, hx109_1, hx109_2, hx109_3, hx109_4⟩ := at_T27 HR0.out x5_1 p109 q109
                        obtain rfl : ad101 = ad109 := (by injection e109)
                        replace p109 := eq_true p109
                        replace q109 := eq_true q109
                        have p110 : 0 ≤ (x5_1 : Int) := of_decide_eq_true (by first | (with_reducible assumption) | assumption)
                        have q110 : x5_1 < (l1.length : Int) := of_decide_eq_true (by first | (with_reducible assumption) | assumption)
                        obtain ⟨ad110, e110, hx110_0, hx110_1, hx110_2, hx110_3, hx110_4⟩ := at_T27 HR1.out x5_1 p110 q110
                        obtain rfl : ad102 = ad110 := (by injection e110)
                        replace p110 := eq_true p110
                        replace q110 := eq_true q110
                        go_wp2
                        repeat (go_quiet (fail); try go_wp2)
                        go_roundg k1
                        case measure => have := HK1.out; omega
                        case rel => exact ⟨(wrap64 (x5_1 + 1)), (by first | rfl | (simp; done) | (simp [*]; done)), H', ⟨by have := HK1.out; omega⟩, by repeat (first | exact Drawn0.refl _ | apply Drawn0.step)⟩
                      · rw [if_neg c11] at H
                        have c11b0 : (((rd_T27 l0 x5_1).f4) == ((rd_T27 l1 x5_1).f4)) = false := beq_eq_false_iff_ne.mpr c11
                        have c11b1 : (((rd_T27 l0 x5_1).f4) != ((rd_T27 l1 x5_1).f4)) = true := bne_iff_ne.mpr c11
                        obtain rfl := Option.some.inj H
                        have p101 : 0 ≤ (x5_1 : Int) := of_decide_eq_true (by first | (with_reducible assumption) | assumption)
                        have q101 : x5_1 < (l0.length : Int) := of_decide_eq_true (by first | (with_reducible assumption) | assumption)
                        obtain ⟨ad101, e101, hx101_0, hx101_1, hx101_2, hx101_3, hx101_4⟩ := at_T27 HR0.out x5_1 p101 q101
                        cases e101
                        replace p101 := eq_true p101
                        replace q101 := eq_true q101
                        have p102 : 0 ≤ (x5_1 : Int) := of_decide_eq_true (by first | (with_reducible assumption) | assumption)
                        have q102 : x5_1 < (l1.length : Int) := of_decide_eq_true (by first | (with_reducible assumption) | assumption)
                        obtain ⟨ad102, e102, hx102_0, hx102_1, hx102_2, hx102_3, hx102_4⟩ := at_T27 HR1.out x5_1 p102 q102
                        cases e102
                        replace p102 := eq_true p102
                        replace q102 := eq_true q102
                        have p103 : 0 ≤ (x5_1 : Int) := of_decide_eq_true (by first | (with_reducible assumption) | assumption)
                        have q103 : x5_1 < (l0.length : Int) := of_decide_eq_true (by first | (with_reducible assumption) | assumption)
                        obtain ⟨ad103, e103, hx103_0, hx103_1, hx103_2, hx103_3, hx103_4⟩ := at_T27 HR0.out x5_1 p103 q103
                        obtain rfl : ad101 = ad103 := (by injection e103)
                        replace p103 := eq_true p103
                        replace q103 := eq_true q103
                        have p104 : 0 ≤ (x5_1 : Int) := of_decide_eq_true (by first | (with_reducible assumption) | assumption)
                        have q104 : x5_1 < (l1.length : Int) := of_decide_eq_true (by first | (with_reducible assumption) | assumption)
                        obtain ⟨ad104, e104, hx104_0, hx104_1, hx104_2, hx104_3, hx104_4⟩ := at_T27 HR1.out x5_1 p104 q104
                        obtain rfl : ad102 = ad104 := (by injection e104)
                        replace p104 := eq_true p104
                        replace q104 := eq_true q104
                        have p105 : 0 ≤ (x5_1 : Int) := of_decide_eq_true (by first | (with_reducible assumption) | assumption)
                        have q105 : x5_1 < (l0.length : Int) := of_decide_eq_true (by first | (with_reducible assumption) | assumption)
                        obtain ⟨ad105, e105, hx105_0, hx105_1, hx105_2, hx105_3, hx105_4⟩ := at_T27 HR0.out x5_1 p105 q105
                        obtain rfl : ad101 = ad105 := (by injection e105)
                        replace p105 := eq_true p105
                        replace q105 := eq_true q105
                        have p106 : 0 ≤ (x5_1 : Int) := of_decide_eq_true (by first | (with_reducible assumption) | assumption)
                        have q106 : x5_1 < (l1.length : Int) := of_decide_eq_true (by first | (with_reducible assumption) | assumption)
                        obtain ⟨ad106, e106, hx106_0, hx106_1, hx106_2, hx106_3, hx106_4⟩ := at_T27 HR1.out x5_1 p106 q106
                        obtain rfl : ad102 = ad106 := (by injection e106)
                        replace p106 := eq_true p106
                        replace q106 := eq_true q106
                        have p107 : 0 ≤ (x5_1 : Int) := of_decide_eq_true (by first | (with_reducible assumption) | assumption)
                        have q107 : x5_1 < (l0.length : Int) := of_decide_eq_true (by first | (with_reducible assumption) | assumption)
                        obtain ⟨ad107, e107, hx107_0, hx107_1, hx107_2, hx107_3, hx107_4⟩ := at_T27 HR0.out x5_1 p107 q107
                        obtain rfl : ad101 = ad107 := (by injection e107)
                        replace p107 := eq_true p107
                        replace q107 := eq_true q107
                        have p108 : 0 ≤ (x5_1 : Int) := of_decide_eq_true (by first | (with_reducible assumption) | assumption)
                        have q108 : x5_1 < (l1.length : Int) := of_decide_eq_true (by first | (with_reducible assumption) | assumption)
                        obtain ⟨ad108, e108, hx108_0, hx108_1, hx108_2, hx108_3, hx108_4⟩ := at_T27 HR1.out x5_1 p108 q108
                        obtain rfl : ad102 = ad108 := (by injection e108)
                        replace p108 := eq_true p108
                        replace q108 := eq_true q108
                        have p109 : 0 ≤ (x5_1 : Int) := of_decide_eq_true (by first | (with_reducible assumption) | assumption)
                        have q109 : x5_1 < (l0.length : Int) := of_decide_eq_true (by first | (with_reducible assumption) | assumption)
                        obtain ⟨ad109, e109, hx109_0, hx109_1, hx109_2, hx109_3, hx109_4⟩ := at_T27 HR0.out x5_1 p109 q109
                        obtain rfl : ad101 = ad109 := (by injection e109)
                        replace p109 := eq_true p109
                        replace q109 := eq_true q109
                        have p110 : 0 ≤ (x5_1 : Int) := of_decide_eq_true (by first | (with_reducible assumption) | assumption)
                        have q110 : x5_1 < (l1.length : Int) := of_decide_eq_true (by first | (with_reducible assumption) | assumption)
                        obtain ⟨ad110, e110, hx110_0, hx110_1, hx110_2, hx110_3, hx110_4⟩ := at_T27 HR1.out x5_1 p110 q110
                        obtain rfl : ad102 = ad110 := (by injection e110)
                        replace p110 := eq_true p110
                        replace q110 := eq_true q110
                        go_wp2
                        repeat (go_quiet (fail); try go_wp2)
                        go_ret
                        exact ⟨by first | rfl | (simp; done) | (simp [*]; done), by repeat (first | exact Drawn0.refl _ | apply Drawn0.step)⟩
                    · rw [if_neg c10] at H
                      have c10b0 : (((rd_T27 l0 x5_1).f3).toList == ((rd_T27 l1 x5_1).f3).toList) = false := beq_eq_false_iff_ne.mpr c10
                      have c10b1 : (((rd_T27 l0 x5_1).f3).toList != ((rd_T27 l1 x5_1).f3).toList) = true := bne_iff_ne.mpr c10
                      obtain rfl := Option.some.inj H
                      have p101 : 0 ≤ (x5_1 : Int) := of_decide_eq_true (by first | (with_reducible assumption) | assumption)
                      have q101 : x5_1 < (l0.length : Int) := of_decide_eq_true (by first | (with_reducible assumption) | assumption)
                      obtain ⟨ad101, e101, hx101_0, hx101_1, hx101_2, hx101_3, hx101_4⟩ := at_T27 HR0.out x5_1 p101 q101
                      cases e101
                      replace p101 := eq_true p101
                      replace q101 := eq_true q101
                      have p102 : 0 ≤ (x5_1 : Int) := of_decide_eq_true (by first | (with_reducible assumption) | assumption)
                      have q102 : x5_1 < (l1.length : Int) := of_decide_eq_true (by first | (with_reducible assumption) | assumption)
                      obtain ⟨ad102, e102, hx102_0, hx102_1, hx102_2, hx102_3, hx102_4⟩ := at_T27 HR1.out x5_1 p102 q102
                      cases e102
                      replace p102 := eq_true p102
                      replace q102 := eq_true q102
                      have p103 : 0 ≤ (x5_1 : Int) := of_decide_eq_true (by first | (with_reducible assumption) | assumption)
                      have q103 : x5_1 < (l0.length : Int) := of_decide_eq_true (by first | (with_reducible assumption) | assumption)
                      obtain ⟨ad103, e103, hx103_0, hx103_1, hx103_2, hx103_3, hx103_4⟩ := at_T27 HR0.out x5_1 p103 q103
                      obtain rfl : ad101 = ad103 := (by injection e103)
                      replace p103 := eq_true p103
                      replace q103 := eq_true q103
                      have p104 : 0 ≤ (x5_1 : Int) := of_decide_eq_true (by first | (with_reducible assumption) | assumption)
                      have q104 : x5_1 < (l1.length : Int) := of_decide_eq_true (by first | (with_reducible assumption) | assumption)
                      obtain ⟨ad104, e104, hx104_0, hx104_1, hx104_2, hx104_3, hx104_4⟩ := at_T27 HR1.out x5_1 p104 q104
                      obtain rfl : ad102 = ad104 := (by injection e104)
                      replace p104 := eq_true p104
                      replace q104 := eq_true q104
                      have p105 : 0 ≤ (x5_1 : Int) := of_decide_eq_true (by first | (with_reducible assumption) | assumption)
                      have q105 : x5_1 < (l0.length : Int) := of_decide_eq_true (by first | (with_reducible assumption) | assumption)
                      obtain ⟨ad105, e105, hx105_0, hx105_1, hx105_2, hx105_3, hx105_4⟩ := at_T27 HR0.out x5_1 p105 q105
                      obtain rfl : ad101 = ad105 := (by injection e105)
                      replace p105 := eq_true p105
                      replace q105 := eq_true q105
                      have p106 : 0 ≤ (x5_1 : Int) := of_decide_eq_true (by first | (with_reducible assumption) | assumption)
                      have q106 : x5_1 < (l1.length : Int) := of_decide_eq_true (by first | (with_reducible assumption) | assumption)
                      obtain ⟨ad106, e106, hx106_0, hx106_1, hx106_2, hx106_3, hx106_4⟩ := at_T27 HR1.out x5_1 p106 q106
                      obtain rfl : ad102 = ad106 := (by injection e106)
                      replace p106 := eq_true p106
                      replace q106 := eq_true q106
                      have p107 : 0 ≤ (x5_1 : Int) := of_decide_eq_true (by first | (with_reducible assumption) | assumption)
                      have q107 : x5_1 < (l0.length : Int) := of_decide_eq_true (by first | (with_reducible assumption) | assumption)
                      obtain ⟨ad107, e107, hx107_0, hx107_1, hx107_2, hx107_3, hx107_4⟩ := at_T27 HR0.out x5_1 p107 q107
                      obtain rfl : ad101 = ad107 := (by injection e107)
                      replace p107 := eq_true p107
                      replace q107 := eq_true q107
                      have p108 : 0 ≤ (x5_1 : Int) := of_decide_eq_true (by first | (with_reducible assumption) | assumption)
                      have q108 : x5_1 < (l1.length : Int) := of_decide_eq_true (by first | (with_reducible assumption) | assumption)
                      obtain ⟨ad108, e108, hx108_0, hx108_1, hx108_2, hx108_3, hx108_4⟩ := at_T27 HR1.out x5_1 p108 q108
                      obtain rfl : ad102 = ad108 := (by injection e108)
                      replace p108 := eq_true p108
                      replace q108 := eq_true q108
                      go_wp2
                      repeat (go_quiet (fail); try go_wp2)
                      go_ret
                      exact ⟨by first | rfl | (simp; done) | (simp [*]; done), by repeat (first | exact Drawn0.refl _ | apply Drawn0.step)⟩
                  · rw [if_neg c9] at H
                    have c9b0 : (((rd_T27 l0 x5_1).f2) == ((rd_T27 l1 x5_1).f2)) = false := beq_eq_false_iff_ne.mpr c9
                    have c9b1 : (((rd_T27 l0 x5_1).f2) != ((rd_T27 l1 x5_1).f2)) = true := bne_iff_ne.mpr c9
                    obtain rfl := Option.some.inj H
                    have p101 : 0 ≤ (x5_1 : Int) := of_decide_eq_true (by first | (with_reducible assumption) | assumption)
                    have q101 : x5_1 < (l0.length : Int) := of_decide_eq_true (by first | (with_reducible assumption) | assumption)
                    obtain ⟨ad101, e101, hx101_0, hx101_1, hx101_2, hx101_3, hx101_4⟩ := at_T27 HR0.out x5_1 p101 q101
                    cases e101
                    replace p101 := eq_true p101
                    replace q101 := eq_true q101
                    have p102 : 0 ≤ (x5_1 : Int) := of_decide_eq_true (by first | (with_reducible assumption) | assumption)
                    have q102 : x5_1 < (l1.length : Int) := of_decide_eq_true (by first | (with_reducible assumption) | assumption)
                    obtain ⟨ad102, e102, hx102_0, hx102_1, hx102_2, hx102_3, hx102_4⟩ := at_T27 HR1.out x5_1 p102 q102
                    cases e102
                    replace p102 := eq_true p102
                    replace q102 := eq_true q102
                    have p103 : 0 ≤ (x5_1 : Int) := of_decide_eq_true (by first | (with_reducible assumption) | assumption)
                    have q103 : x5_1 < (l0.length : Int) := of_decide_eq_true (by first | (with_reducible assumption) | assumption)
                    obtain ⟨ad103, e103, hx103_0, hx103_1, hx103_2, hx103_3, hx103_4⟩ := at_T27 HR0.out x5_1 p103 q103
                    obtain rfl : ad101 = ad103 := (by injection e103)
                    replace p103 := eq_true p103
                    replace q103 := eq_true q103
                    have p104 : 0 ≤ (x5_1 : Int) := of_decide_eq_true (by first | (with_reducible assumption) | assumption)
                    have q104 : x5_1 < (l1.length : Int) := of_decide_eq_true (by first | (with_reducible assumption) | assumption)
                    obtain ⟨ad104, e104, hx104_0, hx104_1, hx104_2, hx104_3, hx104_4⟩ := at_T27 HR1.out x5_1 p104 q104
                    obtain rfl : ad102 = ad104 := (by injection e104)
                    replace p104 := eq_true p104
                    replace q104 := eq_true q104
                    have p105 : 0 ≤ (x5_1 : Int) := of_decide_eq_true (by first | (with_reducible assumption) | assumption)
                    have q105 : x5_1 < (l0.length : Int) := of_decide_eq_true (by first | (with_reducible assumption) | assumption)
                    obtain ⟨ad105, e105, hx105_0, hx105_1, hx105_2, hx105_3, hx105_4⟩ := at_T27 HR0.out x5_1 p105 q105
                    obtain rfl : ad101 = ad105 := (by injection e105)
                    replace p105 := eq_true p105
                    replace q105 := eq_true q105
                    have p106 : 0 ≤ (x5_1 : Int) := of_decide_eq_true (by first | (with_reducible assumption) | assumption)
                    have q106 : x5_1 < (l1.length : Int) := of_decide_eq_true (by first | (with_reducible assumption) | assumption)
                    obtain ⟨ad106, e106, hx106_0, hx106_1, hx106_2, hx106_3, hx106_4⟩ := at_T27 HR1.out x5_1 p106 q106
                    obtain rfl : ad102 = ad106 := (by injection e106)
                    replace p106 := eq_true p106
                    replace q106 := eq_true q106
                    go_wp2
                    repeat (go_quiet (fail); try go_wp2)
                    go_ret
                    exact ⟨by first | rfl | (simp; done) | (simp [*]; done), by repeat (first | exact Drawn0.refl _ | apply Drawn0.step)⟩
                · rw [if_neg c8] at H
                  have c8b0 : (((rd_T27 l0 x5_1).f1) == ((rd_T27 l1 x5_1).f1)) = false := beq_eq_false_iff_ne.mpr c8
                  have c8b1 : (((rd_T27 l0 x5_1).f1) != ((rd_T27 l1 x5_1).f1)) = true := bne_iff_ne.mpr c8
                  obtain rfl := Option.some.inj H
                  have p101 : 0 ≤ (x5_1 : Int) := of_decide_eq_true (by first | (with_reducible assumption) | assumption)
                  have q101 : x5_1 < (l0.length : Int) := of_decide_eq_true (by first | (with_reducible assumption) | assumption)
                  obtain ⟨ad101, e101, hx101_0, hx101_1, hx101_2, hx101_3, hx101_4⟩ := at_T27 HR0.out x5_1 p101 q101
                  cases e101
                  replace p101 := eq_true p101
                  replace q101 := eq_true q101
                  have p102 : 0 ≤ (x5_1 : Int) := of_decide_eq_true (by first | (with_reducible assumption) | assumption)
                  have q102 : x5_1 < (l1.length : Int) := of_decide_eq_true (by first | (with_reducible assumption) | assumption)
                  obtain ⟨ad102, e102, hx102_0, hx102_1, hx102_2, hx102_3, hx102_4⟩ := at_T27 HR1.out x5_1 p102 q102
                  cases e102
                  replace p102 := eq_true p102
                  replace q102 := eq_true q102
                  have p103 : 0 ≤ (x5_1 : Int) := of_decide_eq_true (by first | (with_reducible assumption) | assumption)
                  have q103 : x5_1 < (l0.length : Int) := of_decide_eq_true (by first | (with_reducible assumption) | assumption)
                  obtain ⟨ad103, e103, hx103_0, hx103_1, hx103_2, hx103_3, hx103_4⟩ := at_T27 HR0.out x5_1 p103 q103
                  obtain rfl : ad101 = ad103 := (by injection e103)
                  replace p103 := eq_true p103
                  replace q103 := eq_true q103
                  have p104 : 0 ≤ (x5_1 : Int) := of_decide_eq_true (by first | (with_reducible assumption) | assumption)
                  have q104 : x5_1 < (l1.length : Int) := of_decide_eq_true (by first | (with_reducible assumption) | assumption)
                  obtain ⟨ad104, e104, hx104_0, hx104_1, hx104_2, hx104_3, hx104_4⟩ := at_T27 HR1.out x5_1 p104 q104
                  obtain rfl : ad102 = ad104 := (by injection e104)
                  replace p104 := eq_true p104
                  replace q104 := eq_true q104
                  go_wp2
                  repeat (go_quiet (fail); try go_wp2)
                  go_ret
                  exact ⟨by first | rfl | (simp; done) | (simp [*]; done), by repeat (first | exact Drawn0.refl _ | apply Drawn0.step)⟩
              · rw [if_neg c7] at H
                have c7b0 : (((rd_T27 l0 x5_1).f0).toList == ((rd_T27 l1 x5_1).f0).toList) = false := beq_eq_false_iff_ne.mpr c7
                have c7b1 : (((rd_T27 l0 x5_1).f0).toList != ((rd_T27 l1 x5_1).f0).toList) = true := bne_iff_ne.mpr c7
                obtain rfl := Option.some.inj H
                have p101 : 0 ≤ (x5_1 : Int) := of_decide_eq_true (by first | (with_reducible assumption) | assumption)
                have q101 : x5_1 < (l0.length : Int) := of_decide_eq_true (by first | (with_reducible assumption) | assumption)
                obtain ⟨ad101, e101, hx101_0, hx101_1, hx101_2, hx101_3, hx101_4⟩ := at_T27 HR0.out x5_1 p101 q101
                cases e101
                replace p101 := eq_true p101
                replace q101 := eq_true q101
                have p102 : 0 ≤ (x5_1 : Int) := of_decide_eq_true (by first | (with_reducible assumption) | assumption)
                have q102 : x5_1 < (l1.length : Int) := of_decide_eq_true (by first | (with_reducible assumption) | assumption)
                obtain ⟨ad102, e102, hx102_0, hx102_1, hx102_2, hx102_3, hx102_4⟩ := at_T27 HR1.out x5_1 p102 q102
                cases e102
                replace p102 := eq_true p102
                replace q102 := eq_true q102
                go_wp2
                repeat (go_quiet (fail); try go_wp2)
                go_ret
                exact ⟨by first | rfl | (simp; done) | (simp [*]; done), by repeat (first | exact Drawn0.refl _ | apply Drawn0.step)⟩
            · rw [if_neg c6] at H
              exact absurd H (by simp)
          · rw [if_neg c5] at H
            exact absurd H (by simp)
        · rw [if_neg c4] at H
          have c4b0 : decide (x5_1 < (l0.length : Int)) = false := decide_eq_false c4
          clear c4
          obtain rfl := Option.some.inj H
          go_wp2
          repeat (go_quiet (fail); try go_wp2)
          go_ret
          exact ⟨by first | rfl | (simp; done) | (simp [*]; done), by repeat (first | exact Drawn0.refl _ | apply Drawn0.step)⟩
  · rw [if_neg c3] at H
    have c3b0 : ((l0.length : Int) == (l1.length : Int)) = false := beq_eq_false_iff_ne.mpr c3
    have c3b1 : ((l0.length : Int) != (l1.length : Int)) = true := bne_iff_ne.mpr c3
    have c3b2 : (l0.length == l1.length) = false := by first | simpa using c3 | (simp at c3 ⊢; omega)
    obtain rfl := Option.some.inj H
    go_enter Try.func27, Try.ntmps27
    go_wp2
    repeat (go_quiet (fail); try go_wp2)
    go_ret
    exact ⟨by first | rfl | (simp; done) | (simp [*]; done), by repeat (first | exact Drawn0.refl _ | apply Drawn0.step)⟩

/-! ### incipitlaw07_same: function 12 -/
def incipitlaw07_same.f (k : Nat) (l0 : List (S27)) (l1 : List (S27)) : Option (Bool) := (incipitref07_Same.f k l0 l1).bind fun t111 => (some t111)
set_option maxHeartbeats 8000000 in
set_option maxRecDepth 100000 in
theorem incipitlaw07_same.calls (k : Nat) (A0 : Option Addr) (c0 : Nat) (l0 : List (S27)) (A1 : Option Addr) (c1 : Nat) (l1 : List (S27)) (r : Bool) (w : World) (hr0 : Kd.C k27 w A0 l0.length l0) (hc0 : l0.length ≤ c0) (hr1 : Kd.C k27 w A1 l1.length l1) (hc1 : l1.length ≤ c1) (h : incipitlaw07_same.f k l0 l1 = some r) :
    Calls Try.prog 12 #[.slice A0 l0.length c0, .slice A1 l1.length c1] w fun e w' => e = .returned (.bool r) ∧ Drawn0 w w' := by
  have HR0 := Aside0.mk hr0
  have HC0 := Aside0.mk hc0
  clear hr0 hc0
  have HR1 := Aside0.mk hr1
  have HC1 := Aside0.mk hc1
  clear hr1 hc1
  have H : ((incipitref07_Same.f k l0 l1).bind fun t111 => (some t111)) = some r := h
  clear h
  replace H := Option.bind_eq_some_iff.mp H
  obtain ⟨t111, A30, H⟩ := H
  replace H : (some t111) = some r := H
  have A3 := Aside0.mk A30
  clear A30
  obtain rfl := Option.some.inj H
  go_enter Try.func12, Try.ntmps12
  go_wp2_with (first | ((with_reducible refine gate_callee (f := 27) rfl ?_); refine goesL_ (some 7) rfl rfl Try.func27 (by kernel_rfl) rfl #[.slice A0 l0.length c0, .slice A1 l1.length c1] rfl (by (try simp only [List.map_toArray, List.map_cons, List.map_nil]); first | done | rfl | (simp only [List.length_drop, List.length_take]; rfl)) ?_; (with_reducible refine (incipitref07_Same.calls k _ _ l0 _ _ l1 t111 _ ?side1 ?side2 ?side3 ?side4 A3.out).mono ?_); (case side1 => repeat (first | exact HR0.out | (with_reducible refine Kd.C_alloc ?_ _) | (with_reducible refine Kd.C_drewN ?_ _) | (with_reducible refine Kd.C_drew ?_))); (case side2 => exact HC0.out); (case side3 => repeat (first | exact HR1.out | (with_reducible refine Kd.C_alloc ?_ _) | (with_reducible refine Kd.C_drewN ?_ _) | (with_reducible refine Kd.C_drew ?_))); (case side4 => exact HC1.out); rintro e w' ⟨rfl, ⟨nd, rfl⟩⟩; refine ⟨_, rfl, ?_⟩))
  go_ret
  exact ⟨by first | rfl | (simp; done) | (simp [*]; done), by repeat (first | exact Drawn0.refl _ | apply Drawn0.step)⟩

/-! ### incipitref07_Core: function 13 -/
/-! ### registry_Core: function 11 -/
def registry_Core.f  : Option ((List (S27))) := some (([(⟨(⟨#[113, 117, 111, 116, 101]⟩ : ByteArray), 1, 100, (⟨#[]⟩ : ByteArray), 0⟩ : S27), (⟨(⟨#[102, 101, 110, 99, 101]⟩ : ByteArray), 1, 200, (⟨#[]⟩ : ByteArray), 0⟩ : S27), (⟨(⟨#[99, 111, 100, 101]⟩ : ByteArray), 1, 210, (⟨#[]⟩ : ByteArray), 0⟩ : S27), (⟨(⟨#[104, 101, 97, 100, 105, 110, 103]⟩ : ByteArray), 1, 300, (⟨#[]⟩ : ByteArray), 0⟩ : S27), (⟨(⟨#[114, 117, 108, 101]⟩ : ByteArray), 1, 400, (⟨#[]⟩ : ByteArray), 0⟩ : S27), (⟨(⟨#[104, 116, 109, 108]⟩ : ByteArray), 1, 500, (⟨#[]⟩ : ByteArray), 0⟩ : S27), (⟨(⟨#[108, 105, 115, 116]⟩ : ByteArray), 1, 600, (⟨#[]⟩ : ByteArray), 0⟩ : S27), (⟨(⟨#[116, 97, 98, 108, 101]⟩ : ByteArray), 1, 700, (⟨#[]⟩ : ByteArray), 1⟩ : S27), (⟨(⟨#[110, 111, 116, 101]⟩ : ByteArray), 1, 150, (⟨#[]⟩ : ByteArray), 32⟩ : S27), (⟨(⟨#[101, 115, 99, 97, 112, 101]⟩ : ByteArray), 2, 100, (⟨#[92]⟩ : ByteArray), 0⟩ : S27), (⟨(⟨#[101, 110, 116, 105, 116, 121]⟩ : ByteArray), 2, 110, (⟨#[38]⟩ : ByteArray), 0⟩ : S27), (⟨(⟨#[115, 112, 97, 110]⟩ : ByteArray), 2, 120, (⟨#[96]⟩ : ByteArray), 0⟩ : S27), (⟨(⟨#[97, 117, 116, 111]⟩ : ByteArray), 2, 130, (⟨#[60]⟩ : ByteArray), 0⟩ : S27), (⟨(⟨#[114, 97, 119]⟩ : ByteArray), 2, 140, (⟨#[60]⟩ : ByteArray), 0⟩ : S27), (⟨(⟨#[101, 109, 112, 104]⟩ : ByteArray), 2, 200, (⟨#[42, 95]⟩ : ByteArray), 0⟩ : S27), (⟨(⟨#[115, 116, 114, 105, 107, 101]⟩ : ByteArray), 2, 210, (⟨#[126]⟩ : ByteArray), 2⟩ : S27), (⟨(⟨#[108, 105, 110, 107]⟩ : ByteArray), 2, 300, (⟨#[91, 33, 93]⟩ : ByteArray), 0⟩ : S27), (⟨(⟨#[110, 111, 116, 101, 114, 101, 102]⟩ : ByteArray), 2, 290, (⟨#[91]⟩ : ByteArray), 32⟩ : S27), (⟨(⟨#[98, 114, 101, 97, 107]⟩ : ByteArray), 2, 400, (⟨#[10]⟩ : ByteArray), 0⟩ : S27), (⟨(⟨#[116, 97, 115, 107, 115]⟩ : ByteArray), 3, 100, (⟨#[]⟩ : ByteArray), 4⟩ : S27), (⟨(⟨#[117, 114, 108, 115]⟩ : ByteArray), 3, 200, (⟨#[]⟩ : ByteArray), 8⟩ : S27), (⟨(⟨#[110, 111, 116, 101, 115]⟩ : ByteArray), 3, 300, (⟨#[]⟩ : ByteArray), 32⟩ : S27), (⟨(⟨#[115, 108, 117, 103, 115]⟩ : ByteArray), 3, 400, (⟨#[]⟩ : ByteArray), 64⟩ : S27), (⟨(⟨#[104, 116, 109, 108, 45, 111, 117, 116]⟩ : ByteArray), 4, 100, (⟨#[]⟩ : ByteArray), 0⟩ : S27), (⟨(⟨#[102, 105, 108, 116, 101, 114]⟩ : ByteArray), 4, 200, (⟨#[]⟩ : ByteArray), 16⟩ : S27)] : List (S27)))
set_option maxHeartbeats 8000000 in
set_option maxRecDepth 100000 in
theorem registry_Core.calls  (r : List (S27)) (w : World) (h : registry_Core.f  = some r) :
    Calls Try.prog 11 #[] w fun e w' => ∃ v0_ : Value, e = .returned (v0_) ∧ Kd.R k27 27 w' w.heap.size (fun _ => True) v0_ r ∧ Below w.heap.size w w' := by
  have hu27 := Try.underlying27
  have HB := Aside0.mk (Below.refl w.heap.size w)
  have H : (some (([(⟨(⟨#[113, 117, 111, 116, 101]⟩ : ByteArray), 1, 100, (⟨#[]⟩ : ByteArray), 0⟩ : S27), (⟨(⟨#[102, 101, 110, 99, 101]⟩ : ByteArray), 1, 200, (⟨#[]⟩ : ByteArray), 0⟩ : S27), (⟨(⟨#[99, 111, 100, 101]⟩ : ByteArray), 1, 210, (⟨#[]⟩ : ByteArray), 0⟩ : S27), (⟨(⟨#[104, 101, 97, 100, 105, 110, 103]⟩ : ByteArray), 1, 300, (⟨#[]⟩ : ByteArray), 0⟩ : S27), (⟨(⟨#[114, 117, 108, 101]⟩ : ByteArray), 1, 400, (⟨#[]⟩ : ByteArray), 0⟩ : S27), (⟨(⟨#[104, 116, 109, 108]⟩ : ByteArray), 1, 500, (⟨#[]⟩ : ByteArray), 0⟩ : S27), (⟨(⟨#[108, 105, 115, 116]⟩ : ByteArray), 1, 600, (⟨#[]⟩ : ByteArray), 0⟩ : S27), (⟨(⟨#[116, 97, 98, 108, 101]⟩ : ByteArray), 1, 700, (⟨#[]⟩ : ByteArray), 1⟩ : S27), (⟨(⟨#[110, 111, 116, 101]⟩ : ByteArray), 1, 150, (⟨#[]⟩ : ByteArray), 32⟩ : S27), (⟨(⟨#[101, 115, 99, 97, 112, 101]⟩ : ByteArray), 2, 100, (⟨#[92]⟩ : ByteArray), 0⟩ : S27), (⟨(⟨#[101, 110, 116, 105, 116, 121]⟩ : ByteArray), 2, 110, (⟨#[38]⟩ : ByteArray), 0⟩ : S27), (⟨(⟨#[115, 112, 97, 110]⟩ : ByteArray), 2, 120, (⟨#[96]⟩ : ByteArray), 0⟩ : S27), (⟨(⟨#[97, 117, 116, 111]⟩ : ByteArray), 2, 130, (⟨#[60]⟩ : ByteArray), 0⟩ : S27), (⟨(⟨#[114, 97, 119]⟩ : ByteArray), 2, 140, (⟨#[60]⟩ : ByteArray), 0⟩ : S27), (⟨(⟨#[101, 109, 112, 104]⟩ : ByteArray), 2, 200, (⟨#[42, 95]⟩ : ByteArray), 0⟩ : S27), (⟨(⟨#[115, 116, 114, 105, 107, 101]⟩ : ByteArray), 2, 210, (⟨#[126]⟩ : ByteArray), 2⟩ : S27), (⟨(⟨#[108, 105, 110, 107]⟩ : ByteArray), 2, 300, (⟨#[91, 33, 93]⟩ : ByteArray), 0⟩ : S27), (⟨(⟨#[110, 111, 116, 101, 114, 101, 102]⟩ : ByteArray), 2, 290, (⟨#[91]⟩ : ByteArray), 32⟩ : S27), (⟨(⟨#[98, 114, 101, 97, 107]⟩ : ByteArray), 2, 400, (⟨#[10]⟩ : ByteArray), 0⟩ : S27), (⟨(⟨#[116, 97, 115, 107, 115]⟩ : ByteArray), 3, 100, (⟨#[]⟩ : ByteArray), 4⟩ : S27), (⟨(⟨#[117, 114, 108, 115]⟩ : ByteArray), 3, 200, (⟨#[]⟩ : ByteArray), 8⟩ : S27), (⟨(⟨#[110, 111, 116, 101, 115]⟩ : ByteArray), 3, 300, (⟨#[]⟩ : ByteArray), 32⟩ : S27), (⟨(⟨#[115, 108, 117, 103, 115]⟩ : ByteArray), 3, 400, (⟨#[]⟩ : ByteArray), 64⟩ : S27), (⟨(⟨#[104, 116, 109, 108, 45, 111, 117, 116]⟩ : ByteArray), 4, 100, (⟨#[]⟩ : ByteArray), 0⟩ : S27), (⟨(⟨#[102, 105, 108, 116, 101, 114]⟩ : ByteArray), 4, 200, (⟨#[]⟩ : ByteArray), 16⟩ : S27)] : List (S27)))) = some r := h
  clear h
  obtain ⟨y115, hy115⟩ : ∃ y_ : List (S27), y_ = (([(⟨(⟨#[113, 117, 111, 116, 101]⟩ : ByteArray), 1, 100, (⟨#[]⟩ : ByteArray), 0⟩ : S27), (⟨(⟨#[102, 101, 110, 99, 101]⟩ : ByteArray), 1, 200, (⟨#[]⟩ : ByteArray), 0⟩ : S27), (⟨(⟨#[99, 111, 100, 101]⟩ : ByteArray), 1, 210, (⟨#[]⟩ : ByteArray), 0⟩ : S27), (⟨(⟨#[104, 101, 97, 100, 105, 110, 103]⟩ : ByteArray), 1, 300, (⟨#[]⟩ : ByteArray), 0⟩ : S27), (⟨(⟨#[114, 117, 108, 101]⟩ : ByteArray), 1, 400, (⟨#[]⟩ : ByteArray), 0⟩ : S27), (⟨(⟨#[104, 116, 109, 108]⟩ : ByteArray), 1, 500, (⟨#[]⟩ : ByteArray), 0⟩ : S27), (⟨(⟨#[108, 105, 115, 116]⟩ : ByteArray), 1, 600, (⟨#[]⟩ : ByteArray), 0⟩ : S27), (⟨(⟨#[116, 97, 98, 108, 101]⟩ : ByteArray), 1, 700, (⟨#[]⟩ : ByteArray), 1⟩ : S27), (⟨(⟨#[110, 111, 116, 101]⟩ : ByteArray), 1, 150, (⟨#[]⟩ : ByteArray), 32⟩ : S27), (⟨(⟨#[101, 115, 99, 97, 112, 101]⟩ : ByteArray), 2, 100, (⟨#[92]⟩ : ByteArray), 0⟩ : S27), (⟨(⟨#[101, 110, 116, 105, 116, 121]⟩ : ByteArray), 2, 110, (⟨#[38]⟩ : ByteArray), 0⟩ : S27), (⟨(⟨#[115, 112, 97, 110]⟩ : ByteArray), 2, 120, (⟨#[96]⟩ : ByteArray), 0⟩ : S27), (⟨(⟨#[97, 117, 116, 111]⟩ : ByteArray), 2, 130, (⟨#[60]⟩ : ByteArray), 0⟩ : S27), (⟨(⟨#[114, 97, 119]⟩ : ByteArray), 2, 140, (⟨#[60]⟩ : ByteArray), 0⟩ : S27), (⟨(⟨#[101, 109, 112, 104]⟩ : ByteArray), 2, 200, (⟨#[42, 95]⟩ : ByteArray), 0⟩ : S27), (⟨(⟨#[115, 116, 114, 105, 107, 101]⟩ : ByteArray), 2, 210, (⟨#[126]⟩ : ByteArray), 2⟩ : S27), (⟨(⟨#[108, 105, 110, 107]⟩ : ByteArray), 2, 300, (⟨#[91, 33, 93]⟩ : ByteArray), 0⟩ : S27), (⟨(⟨#[110, 111, 116, 101, 114, 101, 102]⟩ : ByteArray), 2, 290, (⟨#[91]⟩ : ByteArray), 32⟩ : S27), (⟨(⟨#[98, 114, 101, 97, 107]⟩ : ByteArray), 2, 400, (⟨#[10]⟩ : ByteArray), 0⟩ : S27), (⟨(⟨#[116, 97, 115, 107, 115]⟩ : ByteArray), 3, 100, (⟨#[]⟩ : ByteArray), 4⟩ : S27), (⟨(⟨#[117, 114, 108, 115]⟩ : ByteArray), 3, 200, (⟨#[]⟩ : ByteArray), 8⟩ : S27), (⟨(⟨#[110, 111, 116, 101, 115]⟩ : ByteArray), 3, 300, (⟨#[]⟩ : ByteArray), 32⟩ : S27), (⟨(⟨#[115, 108, 117, 103, 115]⟩ : ByteArray), 3, 400, (⟨#[]⟩ : ByteArray), 64⟩ : S27), (⟨(⟨#[104, 116, 109, 108, 45, 111, 117, 116]⟩ : ByteArray), 4, 100, (⟨#[]⟩ : ByteArray), 0⟩ : S27), (⟨(⟨#[102, 105, 108, 116, 101, 114]⟩ : ByteArray), 4, 200, (⟨#[]⟩ : ByteArray), 16⟩ : S27)] : List (S27))) := ⟨_, rfl⟩
  replace H : (some y115) = some r := by first | (rw [hy115]; with_reducible exact H) | (have H2_ := (Option.bind_some _ _).symm.trans H; rw [hy115]; with_reducible exact H2_) | (have H2_ := (Option.bind_some _ _).symm.trans H; with_reducible exact H2_) | with_reducible exact H | (rw [hy115]; exact H) | exact H
  have Ny115 := Aside0.mk hy115
  clear hy115
  obtain rfl := Option.some.inj H
  go_enter Try.func11, Try.ntmps11
  go_wp2_with (first | ((with_reducible refine gate_dst (N := 26) rfl ?_); refine Kd.R_lit k27 _ 27 ?hg (N := 26) ?hd (xs := ([(⟨(⟨#[113, 117, 111, 116, 101]⟩ : ByteArray), 1, 100, (⟨#[]⟩ : ByteArray), 0⟩ : S27), (⟨(⟨#[102, 101, 110, 99, 101]⟩ : ByteArray), 1, 200, (⟨#[]⟩ : ByteArray), 0⟩ : S27), (⟨(⟨#[99, 111, 100, 101]⟩ : ByteArray), 1, 210, (⟨#[]⟩ : ByteArray), 0⟩ : S27), (⟨(⟨#[104, 101, 97, 100, 105, 110, 103]⟩ : ByteArray), 1, 300, (⟨#[]⟩ : ByteArray), 0⟩ : S27), (⟨(⟨#[114, 117, 108, 101]⟩ : ByteArray), 1, 400, (⟨#[]⟩ : ByteArray), 0⟩ : S27), (⟨(⟨#[104, 116, 109, 108]⟩ : ByteArray), 1, 500, (⟨#[]⟩ : ByteArray), 0⟩ : S27), (⟨(⟨#[108, 105, 115, 116]⟩ : ByteArray), 1, 600, (⟨#[]⟩ : ByteArray), 0⟩ : S27), (⟨(⟨#[116, 97, 98, 108, 101]⟩ : ByteArray), 1, 700, (⟨#[]⟩ : ByteArray), 1⟩ : S27), (⟨(⟨#[110, 111, 116, 101]⟩ : ByteArray), 1, 150, (⟨#[]⟩ : ByteArray), 32⟩ : S27), (⟨(⟨#[101, 115, 99, 97, 112, 101]⟩ : ByteArray), 2, 100, (⟨#[92]⟩ : ByteArray), 0⟩ : S27), (⟨(⟨#[101, 110, 116, 105, 116, 121]⟩ : ByteArray), 2, 110, (⟨#[38]⟩ : ByteArray), 0⟩ : S27), (⟨(⟨#[115, 112, 97, 110]⟩ : ByteArray), 2, 120, (⟨#[96]⟩ : ByteArray), 0⟩ : S27), (⟨(⟨#[97, 117, 116, 111]⟩ : ByteArray), 2, 130, (⟨#[60]⟩ : ByteArray), 0⟩ : S27), (⟨(⟨#[114, 97, 119]⟩ : ByteArray), 2, 140, (⟨#[60]⟩ : ByteArray), 0⟩ : S27), (⟨(⟨#[101, 109, 112, 104]⟩ : ByteArray), 2, 200, (⟨#[42, 95]⟩ : ByteArray), 0⟩ : S27), (⟨(⟨#[115, 116, 114, 105, 107, 101]⟩ : ByteArray), 2, 210, (⟨#[126]⟩ : ByteArray), 2⟩ : S27), (⟨(⟨#[108, 105, 110, 107]⟩ : ByteArray), 2, 300, (⟨#[91, 33, 93]⟩ : ByteArray), 0⟩ : S27), (⟨(⟨#[110, 111, 116, 101, 114, 101, 102]⟩ : ByteArray), 2, 290, (⟨#[91]⟩ : ByteArray), 32⟩ : S27), (⟨(⟨#[98, 114, 101, 97, 107]⟩ : ByteArray), 2, 400, (⟨#[10]⟩ : ByteArray), 0⟩ : S27), (⟨(⟨#[116, 97, 115, 107, 115]⟩ : ByteArray), 3, 100, (⟨#[]⟩ : ByteArray), 4⟩ : S27), (⟨(⟨#[117, 114, 108, 115]⟩ : ByteArray), 3, 200, (⟨#[]⟩ : ByteArray), 8⟩ : S27), (⟨(⟨#[110, 111, 116, 101, 115]⟩ : ByteArray), 3, 300, (⟨#[]⟩ : ByteArray), 32⟩ : S27), (⟨(⟨#[115, 108, 117, 103, 115]⟩ : ByteArray), 3, 400, (⟨#[]⟩ : ByteArray), 64⟩ : S27), (⟨(⟨#[104, 116, 109, 108, 45, 111, 117, 116]⟩ : ByteArray), 4, 100, (⟨#[]⟩ : ByteArray), 0⟩ : S27), (⟨(⟨#[102, 105, 108, 116, 101, 114]⟩ : ByteArray), 4, 200, (⟨#[]⟩ : ByteArray), 16⟩ : S27)] : List (S27))) (inner := [.string (⟨#[113, 117, 111, 116, 101]⟩ : ByteArray), .int .i64 1, .int .i64 100, .string (⟨#[]⟩ : ByteArray), .int .i64 0, .string (⟨#[102, 101, 110, 99, 101]⟩ : ByteArray), .int .i64 1, .int .i64 200, .string (⟨#[]⟩ : ByteArray), .int .i64 0, .string (⟨#[99, 111, 100, 101]⟩ : ByteArray), .int .i64 1, .int .i64 210, .string (⟨#[]⟩ : ByteArray), .int .i64 0, .string (⟨#[104, 101, 97, 100, 105, 110, 103]⟩ : ByteArray), .int .i64 1, .int .i64 300, .string (⟨#[]⟩ : ByteArray), .int .i64 0, .string (⟨#[114, 117, 108, 101]⟩ : ByteArray), .int .i64 1, .int .i64 400, .string (⟨#[]⟩ : ByteArray), .int .i64 0, .string (⟨#[104, 116, 109, 108]⟩ : ByteArray), .int .i64 1, .int .i64 500, .string (⟨#[]⟩ : ByteArray), .int .i64 0, .string (⟨#[108, 105, 115, 116]⟩ : ByteArray), .int .i64 1, .int .i64 600, .string (⟨#[]⟩ : ByteArray), .int .i64 0, .string (⟨#[116, 97, 98, 108, 101]⟩ : ByteArray), .int .i64 1, .int .i64 700, .string (⟨#[]⟩ : ByteArray), .int .i64 1, .string (⟨#[110, 111, 116, 101]⟩ : ByteArray), .int .i64 1, .int .i64 150, .string (⟨#[]⟩ : ByteArray), .int .i64 32, .string (⟨#[101, 115, 99, 97, 112, 101]⟩ : ByteArray), .int .i64 2, .int .i64 100, .string (⟨#[92]⟩ : ByteArray), .int .i64 0, .string (⟨#[101, 110, 116, 105, 116, 121]⟩ : ByteArray), .int .i64 2, .int .i64 110, .string (⟨#[38]⟩ : ByteArray), .int .i64 0, .string (⟨#[115, 112, 97, 110]⟩ : ByteArray), .int .i64 2, .int .i64 120, .string (⟨#[96]⟩ : ByteArray), .int .i64 0, .string (⟨#[97, 117, 116, 111]⟩ : ByteArray), .int .i64 2, .int .i64 130, .string (⟨#[60]⟩ : ByteArray), .int .i64 0, .string (⟨#[114, 97, 119]⟩ : ByteArray), .int .i64 2, .int .i64 140, .string (⟨#[60]⟩ : ByteArray), .int .i64 0, .string (⟨#[101, 109, 112, 104]⟩ : ByteArray), .int .i64 2, .int .i64 200, .string (⟨#[42, 95]⟩ : ByteArray), .int .i64 0, .string (⟨#[115, 116, 114, 105, 107, 101]⟩ : ByteArray), .int .i64 2, .int .i64 210, .string (⟨#[126]⟩ : ByteArray), .int .i64 2, .string (⟨#[108, 105, 110, 107]⟩ : ByteArray), .int .i64 2, .int .i64 300, .string (⟨#[91, 33, 93]⟩ : ByteArray), .int .i64 0, .string (⟨#[110, 111, 116, 101, 114, 101, 102]⟩ : ByteArray), .int .i64 2, .int .i64 290, .string (⟨#[91]⟩ : ByteArray), .int .i64 32, .string (⟨#[98, 114, 101, 97, 107]⟩ : ByteArray), .int .i64 2, .int .i64 400, .string (⟨#[10]⟩ : ByteArray), .int .i64 0, .string (⟨#[116, 97, 115, 107, 115]⟩ : ByteArray), .int .i64 3, .int .i64 100, .string (⟨#[]⟩ : ByteArray), .int .i64 4, .string (⟨#[117, 114, 108, 115]⟩ : ByteArray), .int .i64 3, .int .i64 200, .string (⟨#[]⟩ : ByteArray), .int .i64 8, .string (⟨#[110, 111, 116, 101, 115]⟩ : ByteArray), .int .i64 3, .int .i64 300, .string (⟨#[]⟩ : ByteArray), .int .i64 32, .string (⟨#[115, 108, 117, 103, 115]⟩ : ByteArray), .int .i64 3, .int .i64 400, .string (⟨#[]⟩ : ByteArray), .int .i64 64, .string (⟨#[104, 116, 109, 108, 45, 111, 117, 116]⟩ : ByteArray), .int .i64 4, .int .i64 100, .string (⟨#[]⟩ : ByteArray), .int .i64 0, .string (⟨#[102, 105, 108, 116, 101, 114]⟩ : ByteArray), .int .i64 4, .int .i64 200, .string (⟨#[]⟩ : ByteArray), .int .i64 16]) (ok := fun _ => True) (okp := fun _ => True) ?hr ?hp (fun _ hk => hk) trivial (Below.refl _ _) (Nat.le_refl _) (by simp) ?_; (case hd => rfl); (case hg => rfl); (case hr => first | (go_simp; done) | (go_simp; rfl)); (case hp => exact (Reps.c5 (show Kd.M k27 _ _ _ (⟨(⟨#[113, 117, 111, 116, 101]⟩ : ByteArray), 1, 100, (⟨#[]⟩ : ByteArray), 0⟩ : S27) [.string (⟨#[113, 117, 111, 116, 101]⟩ : ByteArray), .int .i64 1, .int .i64 100, .string (⟨#[]⟩ : ByteArray), .int .i64 0] from (k27_mkM _ _ _ (⟨(⟨#[113, 117, 111, 116, 101]⟩ : ByteArray), 1, 100, (⟨#[]⟩ : ByteArray), 0⟩ : S27) )) (Reps.c5 (show Kd.M k27 _ _ _ (⟨(⟨#[102, 101, 110, 99, 101]⟩ : ByteArray), 1, 200, (⟨#[]⟩ : ByteArray), 0⟩ : S27) [.string (⟨#[102, 101, 110, 99, 101]⟩ : ByteArray), .int .i64 1, .int .i64 200, .string (⟨#[]⟩ : ByteArray), .int .i64 0] from (k27_mkM _ _ _ (⟨(⟨#[102, 101, 110, 99, 101]⟩ : ByteArray), 1, 200, (⟨#[]⟩ : ByteArray), 0⟩ : S27) )) (Reps.c5 (show Kd.M k27 _ _ _ (⟨(⟨#[99, 111, 100, 101]⟩ : ByteArray), 1, 210, (⟨#[]⟩ : ByteArray), 0⟩ : S27) [.string (⟨#[99, 111, 100, 101]⟩ : ByteArray), .int .i64 1, .int .i64 210, .string (⟨#[]⟩ : ByteArray), .int .i64 0] from (k27_mkM _ _ _ (⟨(⟨#[99, 111, 100, 101]⟩ : ByteArray), 1, 210, (⟨#[]⟩ : ByteArray), 0⟩ : S27) )) (Reps.c5 (show Kd.M k27 _ _ _ (⟨(⟨#[104, 101, 97, 100, 105, 110, 103]⟩ : ByteArray), 1, 300, (⟨#[]⟩ : ByteArray), 0⟩ : S27) [.string (⟨#[104, 101, 97, 100, 105, 110, 103]⟩ : ByteArray), .int .i64 1, .int .i64 300, .string (⟨#[]⟩ : ByteArray), .int .i64 0] from (k27_mkM _ _ _ (⟨(⟨#[104, 101, 97, 100, 105, 110, 103]⟩ : ByteArray), 1, 300, (⟨#[]⟩ : ByteArray), 0⟩ : S27) )) (Reps.c5 (show Kd.M k27 _ _ _ (⟨(⟨#[114, 117, 108, 101]⟩ : ByteArray), 1, 400, (⟨#[]⟩ : ByteArray), 0⟩ : S27) [.string (⟨#[114, 117, 108, 101]⟩ : ByteArray), .int .i64 1, .int .i64 400, .string (⟨#[]⟩ : ByteArray), .int .i64 0] from (k27_mkM _ _ _ (⟨(⟨#[114, 117, 108, 101]⟩ : ByteArray), 1, 400, (⟨#[]⟩ : ByteArray), 0⟩ : S27) )) (Reps.c5 (show Kd.M k27 _ _ _ (⟨(⟨#[104, 116, 109, 108]⟩ : ByteArray), 1, 500, (⟨#[]⟩ : ByteArray), 0⟩ : S27) [.string (⟨#[104, 116, 109, 108]⟩ : ByteArray), .int .i64 1, .int .i64 500, .string (⟨#[]⟩ : ByteArray), .int .i64 0] from (k27_mkM _ _ _ (⟨(⟨#[104, 116, 109, 108]⟩ : ByteArray), 1, 500, (⟨#[]⟩ : ByteArray), 0⟩ : S27) )) (Reps.c5 (show Kd.M k27 _ _ _ (⟨(⟨#[108, 105, 115, 116]⟩ : ByteArray), 1, 600, (⟨#[]⟩ : ByteArray), 0⟩ : S27) [.string (⟨#[108, 105, 115, 116]⟩ : ByteArray), .int .i64 1, .int .i64 600, .string (⟨#[]⟩ : ByteArray), .int .i64 0] from (k27_mkM _ _ _ (⟨(⟨#[108, 105, 115, 116]⟩ : ByteArray), 1, 600, (⟨#[]⟩ : ByteArray), 0⟩ : S27) )) (Reps.c5 (show Kd.M k27 _ _ _ (⟨(⟨#[116, 97, 98, 108, 101]⟩ : ByteArray), 1, 700, (⟨#[]⟩ : ByteArray), 1⟩ : S27) [.string (⟨#[116, 97, 98, 108, 101]⟩ : ByteArray), .int .i64 1, .int .i64 700, .string (⟨#[]⟩ : ByteArray), .int .i64 1] from (k27_mkM _ _ _ (⟨(⟨#[116, 97, 98, 108, 101]⟩ : ByteArray), 1, 700, (⟨#[]⟩ : ByteArray), 1⟩ : S27) )) (Reps.c5 (show Kd.M k27 _ _ _ (⟨(⟨#[110, 111, 116, 101]⟩ : ByteArray), 1, 150, (⟨#[]⟩ : ByteArray), 32⟩ : S27) [.string (⟨#[110, 111, 116, 101]⟩ : ByteArray), .int .i64 1, .int .i64 150, .string (⟨#[]⟩ : ByteArray), .int .i64 32] from (k27_mkM _ _ _ (⟨(⟨#[110, 111, 116, 101]⟩ : ByteArray), 1, 150, (⟨#[]⟩ : ByteArray), 32⟩ : S27) )) (Reps.c5 (show Kd.M k27 _ _ _ (⟨(⟨#[101, 115, 99, 97, 112, 101]⟩ : ByteArray), 2, 100, (⟨#[92]⟩ : ByteArray), 0⟩ : S27) [.string (⟨#[101, 115, 99, 97, 112, 101]⟩ : ByteArray), .int .i64 2, .int .i64 100, .string (⟨#[92]⟩ : ByteArray), .int .i64 0] from (k27_mkM _ _ _ (⟨(⟨#[101, 115, 99, 97, 112, 101]⟩ : ByteArray), 2, 100, (⟨#[92]⟩ : ByteArray), 0⟩ : S27) )) (Reps.c5 (show Kd.M k27 _ _ _ (⟨(⟨#[101, 110, 116, 105, 116, 121]⟩ : ByteArray), 2, 110, (⟨#[38]⟩ : ByteArray), 0⟩ : S27) [.string (⟨#[101, 110, 116, 105, 116, 121]⟩ : ByteArray), .int .i64 2, .int .i64 110, .string (⟨#[38]⟩ : ByteArray), .int .i64 0] from (k27_mkM _ _ _ (⟨(⟨#[101, 110, 116, 105, 116, 121]⟩ : ByteArray), 2, 110, (⟨#[38]⟩ : ByteArray), 0⟩ : S27) )) (Reps.c5 (show Kd.M k27 _ _ _ (⟨(⟨#[115, 112, 97, 110]⟩ : ByteArray), 2, 120, (⟨#[96]⟩ : ByteArray), 0⟩ : S27) [.string (⟨#[115, 112, 97, 110]⟩ : ByteArray), .int .i64 2, .int .i64 120, .string (⟨#[96]⟩ : ByteArray), .int .i64 0] from (k27_mkM _ _ _ (⟨(⟨#[115, 112, 97, 110]⟩ : ByteArray), 2, 120, (⟨#[96]⟩ : ByteArray), 0⟩ : S27) )) (Reps.c5 (show Kd.M k27 _ _ _ (⟨(⟨#[97, 117, 116, 111]⟩ : ByteArray), 2, 130, (⟨#[60]⟩ : ByteArray), 0⟩ : S27) [.string (⟨#[97, 117, 116, 111]⟩ : ByteArray), .int .i64 2, .int .i64 130, .string (⟨#[60]⟩ : ByteArray), .int .i64 0] from (k27_mkM _ _ _ (⟨(⟨#[97, 117, 116, 111]⟩ : ByteArray), 2, 130, (⟨#[60]⟩ : ByteArray), 0⟩ : S27) )) (Reps.c5 (show Kd.M k27 _ _ _ (⟨(⟨#[114, 97, 119]⟩ : ByteArray), 2, 140, (⟨#[60]⟩ : ByteArray), 0⟩ : S27) [.string (⟨#[114, 97, 119]⟩ : ByteArray), .int .i64 2, .int .i64 140, .string (⟨#[60]⟩ : ByteArray), .int .i64 0] from (k27_mkM _ _ _ (⟨(⟨#[114, 97, 119]⟩ : ByteArray), 2, 140, (⟨#[60]⟩ : ByteArray), 0⟩ : S27) )) (Reps.c5 (show Kd.M k27 _ _ _ (⟨(⟨#[101, 109, 112, 104]⟩ : ByteArray), 2, 200, (⟨#[42, 95]⟩ : ByteArray), 0⟩ : S27) [.string (⟨#[101, 109, 112, 104]⟩ : ByteArray), .int .i64 2, .int .i64 200, .string (⟨#[42, 95]⟩ : ByteArray), .int .i64 0] from (k27_mkM _ _ _ (⟨(⟨#[101, 109, 112, 104]⟩ : ByteArray), 2, 200, (⟨#[42, 95]⟩ : ByteArray), 0⟩ : S27) )) (Reps.c5 (show Kd.M k27 _ _ _ (⟨(⟨#[115, 116, 114, 105, 107, 101]⟩ : ByteArray), 2, 210, (⟨#[126]⟩ : ByteArray), 2⟩ : S27) [.string (⟨#[115, 116, 114, 105, 107, 101]⟩ : ByteArray), .int .i64 2, .int .i64 210, .string (⟨#[126]⟩ : ByteArray), .int .i64 2] from (k27_mkM _ _ _ (⟨(⟨#[115, 116, 114, 105, 107, 101]⟩ : ByteArray), 2, 210, (⟨#[126]⟩ : ByteArray), 2⟩ : S27) )) (Reps.c5 (show Kd.M k27 _ _ _ (⟨(⟨#[108, 105, 110, 107]⟩ : ByteArray), 2, 300, (⟨#[91, 33, 93]⟩ : ByteArray), 0⟩ : S27) [.string (⟨#[108, 105, 110, 107]⟩ : ByteArray), .int .i64 2, .int .i64 300, .string (⟨#[91, 33, 93]⟩ : ByteArray), .int .i64 0] from (k27_mkM _ _ _ (⟨(⟨#[108, 105, 110, 107]⟩ : ByteArray), 2, 300, (⟨#[91, 33, 93]⟩ : ByteArray), 0⟩ : S27) )) (Reps.c5 (show Kd.M k27 _ _ _ (⟨(⟨#[110, 111, 116, 101, 114, 101, 102]⟩ : ByteArray), 2, 290, (⟨#[91]⟩ : ByteArray), 32⟩ : S27) [.string (⟨#[110, 111, 116, 101, 114, 101, 102]⟩ : ByteArray), .int .i64 2, .int .i64 290, .string (⟨#[91]⟩ : ByteArray), .int .i64 32] from (k27_mkM _ _ _ (⟨(⟨#[110, 111, 116, 101, 114, 101, 102]⟩ : ByteArray), 2, 290, (⟨#[91]⟩ : ByteArray), 32⟩ : S27) )) (Reps.c5 (show Kd.M k27 _ _ _ (⟨(⟨#[98, 114, 101, 97, 107]⟩ : ByteArray), 2, 400, (⟨#[10]⟩ : ByteArray), 0⟩ : S27) [.string (⟨#[98, 114, 101, 97, 107]⟩ : ByteArray), .int .i64 2, .int .i64 400, .string (⟨#[10]⟩ : ByteArray), .int .i64 0] from (k27_mkM _ _ _ (⟨(⟨#[98, 114, 101, 97, 107]⟩ : ByteArray), 2, 400, (⟨#[10]⟩ : ByteArray), 0⟩ : S27) )) (Reps.c5 (show Kd.M k27 _ _ _ (⟨(⟨#[116, 97, 115, 107, 115]⟩ : ByteArray), 3, 100, (⟨#[]⟩ : ByteArray), 4⟩ : S27) [.string (⟨#[116, 97, 115, 107, 115]⟩ : ByteArray), .int .i64 3, .int .i64 100, .string (⟨#[]⟩ : ByteArray), .int .i64 4] from (k27_mkM _ _ _ (⟨(⟨#[116, 97, 115, 107, 115]⟩ : ByteArray), 3, 100, (⟨#[]⟩ : ByteArray), 4⟩ : S27) )) (Reps.c5 (show Kd.M k27 _ _ _ (⟨(⟨#[117, 114, 108, 115]⟩ : ByteArray), 3, 200, (⟨#[]⟩ : ByteArray), 8⟩ : S27) [.string (⟨#[117, 114, 108, 115]⟩ : ByteArray), .int .i64 3, .int .i64 200, .string (⟨#[]⟩ : ByteArray), .int .i64 8] from (k27_mkM _ _ _ (⟨(⟨#[117, 114, 108, 115]⟩ : ByteArray), 3, 200, (⟨#[]⟩ : ByteArray), 8⟩ : S27) )) (Reps.c5 (show Kd.M k27 _ _ _ (⟨(⟨#[110, 111, 116, 101, 115]⟩ : ByteArray), 3, 300, (⟨#[]⟩ : ByteArray), 32⟩ : S27) [.string (⟨#[110, 111, 116, 101, 115]⟩ : ByteArray), .int .i64 3, .int .i64 300, .string (⟨#[]⟩ : ByteArray), .int .i64 32] from (k27_mkM _ _ _ (⟨(⟨#[110, 111, 116, 101, 115]⟩ : ByteArray), 3, 300, (⟨#[]⟩ : ByteArray), 32⟩ : S27) )) (Reps.c5 (show Kd.M k27 _ _ _ (⟨(⟨#[115, 108, 117, 103, 115]⟩ : ByteArray), 3, 400, (⟨#[]⟩ : ByteArray), 64⟩ : S27) [.string (⟨#[115, 108, 117, 103, 115]⟩ : ByteArray), .int .i64 3, .int .i64 400, .string (⟨#[]⟩ : ByteArray), .int .i64 64] from (k27_mkM _ _ _ (⟨(⟨#[115, 108, 117, 103, 115]⟩ : ByteArray), 3, 400, (⟨#[]⟩ : ByteArray), 64⟩ : S27) )) (Reps.c5 (show Kd.M k27 _ _ _ (⟨(⟨#[104, 116, 109, 108, 45, 111, 117, 116]⟩ : ByteArray), 4, 100, (⟨#[]⟩ : ByteArray), 0⟩ : S27) [.string (⟨#[104, 116, 109, 108, 45, 111, 117, 116]⟩ : ByteArray), .int .i64 4, .int .i64 100, .string (⟨#[]⟩ : ByteArray), .int .i64 0] from (k27_mkM _ _ _ (⟨(⟨#[104, 116, 109, 108, 45, 111, 117, 116]⟩ : ByteArray), 4, 100, (⟨#[]⟩ : ByteArray), 0⟩ : S27) )) (Reps.c5 (show Kd.M k27 _ _ _ (⟨(⟨#[102, 105, 108, 116, 101, 114]⟩ : ByteArray), 4, 200, (⟨#[]⟩ : ByteArray), 16⟩ : S27) [.string (⟨#[102, 105, 108, 116, 101, 114]⟩ : ByteArray), .int .i64 4, .int .i64 200, .string (⟨#[]⟩ : ByteArray), .int .i64 16] from (k27_mkM _ _ _ (⟨(⟨#[102, 105, 108, 116, 101, 114]⟩ : ByteArray), 4, 200, (⟨#[]⟩ : ByteArray), 16⟩ : S27) )) (Reps.none _ _))))))))))))))))))))))))))); intro v116 w1 ho2 hb hg_ hnew_; clear hg_ hnew_; (first | rw [← Ny115.out] at ho2 | (simp only [Int.reduceToNat] at ho2; rw [← Ny115.out] at ho2)); have n0_ := Aside0.mk (Kd.R_lower ho2 (below_size (by repeat (first | (with_reducible first | exact HB.out | apply below_alloc | apply pw_below_drewN | apply below_drew1) | exact HB.out)))); have n1_ := Aside0.mk (below_step (by repeat (first | (with_reducible first | exact HB.out | apply below_alloc | apply pw_below_drewN | apply below_drew1) | exact HB.out)) hb); clear HB; have HO117 := n0_; have HB := n1_; clear n0_ n1_; clear hb ho2))
  go_ret
  exact ⟨_, by first | rfl | (simp [errW_none, errW_some] <;> rfl) | (simp [*, errW_none, errW_some] <;> rfl), by (with_reducible repeat (first | apply Kd.R_alloc | apply Kd.R_drewN | apply Kd.R_drew)); exact HO117.out, by repeat (first | (with_reducible first | exact HB.out | apply below_alloc | apply pw_below_drewN | apply below_drew1) | exact HB.out)⟩

end Go.Proofs.Ytfhgdjajifnfiaa.PA
