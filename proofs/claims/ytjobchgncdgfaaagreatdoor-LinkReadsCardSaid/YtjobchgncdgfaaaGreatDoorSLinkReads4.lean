/-
  Texts of the proof of LinkReads, part 4 of 5: contracts and plain laws. Conditions: see each statement.
-/
import Derived.Test.YtjobchgncdgfaaaGreatDoorSLinkReads1
import Derived.Test.YtjobchgncdgfaaaGreatDoorSLinkReads3
import Derived.Test.YtjobchgncdgfaaaGreatDoorSLinkReads2
set_option linter.unusedVariables false
namespace Go.Proofs.YtjobchgncdgfaaaGreatDoor.PA
open Go.RowKit Go.Proofs.YtjobchgncdgfaaaGreatDoorW.PrintWords Go.Proofs.YtjobchgncdgfaaaGreatDoorW.PrintLast Go.Proofs.YtjobchgncdgfaaaGreatDoorW.PrintMore
attribute [local go_sem] max2_int min2_int max_two min_two max_three min_three max_four min_four   -- for this text's walks alone
set_option linter.unusedVariables false
set_option linter.unusedSimpArgs false

/-! ### incipitref05_Unescape: function 28 -/
mutual
def incipitref05_Unescape.l0 : Nat → ByteArray → ByteArray → Option (ByteArray)
  | 0, _, _ => none
  | k + 1, x0, x3 => if (x0.size : Int) > 0 then (if 0 < (x0.size : Int) then (if (bt x0 0) = 92 then (if (x0.size : Int) > 1 then (if 1 < (x0.size : Int) then ((incipitref05_Sign.f (bt x0 1)).bind fun t144 => (incipitref05_Unescape.j1 k x0 x3 t144)) else (none)) else (incipitref05_Unescape.j1 k x0 x3 false)) else (incipitref05_Unescape.j1 k x0 x3 false)) else (none)) else (some x3)
def incipitref05_Unescape.j1 : Nat → ByteArray → ByteArray → Bool → Option (ByteArray)
  | 0, _, _, _ => none
  | k + 1, x0, x3, x21 => if x21 = true then (if 1 ≤ 2 then (if 2 ≤ (x0.size : Int) then (if x3.size + (x0.extract 1 2).size ≤ 9223372036854775807 then (incipitref05_Unescape.l0 k (x0.extract 2 x0.size) (x3 ++ (x0.extract 1 2))) else (none)) else (none)) else (none)) else ((incipitref04_Read.f k x0).bind fun bt145 => (if bt145.2 > 0 then (if x3.size + bt145.1.size ≤ 9223372036854775807 then (if 0 ≤ bt145.2 then (if bt145.2 ≤ (x0.size : Int) then (incipitref05_Unescape.l0 k (x0.extract (bt145.2 : Int).toNat x0.size) (x3 ++ bt145.1)) else (none)) else (none)) else (none)) else (if 0 ≤ 1 then (if 1 ≤ (x0.size : Int) then (if x3.size + (x0.extract 0 1).size ≤ 9223372036854775807 then (incipitref05_Unescape.l0 k (x0.extract 1 x0.size) (x3 ++ (x0.extract 0 1))) else (none)) else (none)) else (none))))
end
def incipitref05_Unescape.f (k : Nat) (a0 : ByteArray) : Option (ByteArray) := incipitref05_Unescape.l0 k a0 (⟨#[]⟩ : ByteArray)
set_option maxHeartbeats 8000000 in
set_option maxRecDepth 100000 in
theorem incipitref05_Unescape.calls (k : Nat) (a0 : ByteArray) (r : ByteArray) (w : World) (h : incipitref05_Unescape.f k a0 = some r) :
    Calls Tryz.prog 28 #[.string a0] w fun e w' => e = .returned (.string r) ∧ Below w.heap.size w w' := by
  have HB := Aside0.mk (Below.refl w.heap.size w)
  have H : (incipitref05_Unescape.l0 k a0 (⟨#[]⟩ : ByteArray)) = some r := h
  clear h
  have H' := Aside0.mk H
  clear H
  go_enter Tryz.func28, Tryz.ntmps28
  go_wp2
  go_loopg [0, 3] k (fun kq v0 v3 w' => ∃ (x0_1 : ByteArray) (x3_1 : ByteArray), v0 = .string x0_1 ∧ v3 = .string x3_1 ∧ Aside0 (incipitref05_Unescape.l0 kq x0_1 x3_1 = some r) ∧ Aside0 (kq ≤ k) ∧ Aside0 (Below w.heap.size w w'))
  case atStart => exact ⟨(a0), ((⟨#[]⟩ : ByteArray)), (by first | rfl | (simp; done) | (simp [*]; done)), (by first | rfl | (simp; done) | (simp [*]; done)), H', ⟨Nat.le_refl _⟩, ⟨by repeat (first | (with_reducible first | exact HB.out | apply below_alloc | apply pw_below_drewN | apply below_drew1) | exact HB.out)⟩⟩
  case round =>
    clear H'
    obtain ⟨x0_1, x3_1, rfl, rfl, HA, HK1, HB⟩ := hrel
    cases gk with
    | zero => exact absurd HA.out (by simp [incipitref05_Unescape.l0])
    | succ k1 =>
      have H := HA.out
      clear HA
      simp only [incipitref05_Unescape.l0] at H
      by_cases c2 : (x0_1.size : Int) > 0
      · rw [if_pos c2] at H
        have c2b0 : decide (0 < (x0_1.size : Int)) = true := decide_eq_true c2
        have c2b1 : decide (0 < x0_1.size) = true := decide_eq_true (by omega)
        clear c2
        have HC3 := Aside0.mk H
        clear H
        go_upto_region 3 with (fail)
        go_cut [21] (fun v21 wc => ∃ (kq : Nat) (x21_2 : Bool), v21 = .bool x21_2 ∧ Aside0 (incipitref05_Unescape.j1 kq x0_1 x3_1 x21_2 = some r) ∧ Aside0 (kq ≤ k1) ∧ Aside0 (Below w.heap.size w wc))
        case first =>
          have H := HC3.out
          clear HC3
          by_cases c4 : 0 < (x0_1.size : Int)
          · rw [if_pos c4] at H
            have c4b0 : decide (0 < (x0_1.size : Int)) = true := decide_eq_true c4
            have c4b1 : decide (0 < x0_1.size) = true := decide_eq_true (by omega)
            clear c4
            (first | rw [c4b0] | (simp only [i64_w, i32_w]; rw [c4b0]) | skip)
            by_cases c6 : (bt x0_1 0) = 92
            · rw [if_pos c6] at H
              have c6b0 : ((bt x0_1 0) == 92) = true := beq_iff_eq.mpr c6
              have c6b1 : ((bt x0_1 0) != 92) = false := bne_eq_false_iff_eq.mpr c6
              clear c6
              by_cases c7 : (x0_1.size : Int) > 1
              · rw [if_pos c7] at H
                have c7b0 : decide (1 < (x0_1.size : Int)) = true := decide_eq_true c7
                have c7b1 : decide (1 < x0_1.size) = true := decide_eq_true (by omega)
                clear c7
                by_cases c8 : 1 < (x0_1.size : Int)
                · rw [if_pos c8] at H
                  have c8b0 : decide (1 < (x0_1.size : Int)) = true := decide_eq_true c8
                  have c8b1 : decide (1 < x0_1.size) = true := decide_eq_true (by omega)
                  clear c8
                  replace H := Option.bind_eq_some_iff.mp H
                  obtain ⟨t144, A100, H⟩ := H
                  replace H : (incipitref05_Unescape.j1 k1 x0_1 x3_1 t144) = some r := H
                  have A10 := Aside0.mk A100
                  clear A100
                  have H' := Aside0.mk H
                  clear H
                  have p5 : 0 ≤ (0 : Int) := (by omega)
                  have q5 : 0 < x0_1.size := (by have : (0 : Int) < (x0_1.size : Int) := of_decide_eq_true (by first | (with_reducible assumption) | assumption); omega)
                  have hx5 : ∀ h : 0 < x0_1.size, ((x0_1[0]'h).toNat : Int) = bt x0_1 0 := bt_at x0_1 0
                  clear p5
                  have qi5 : (0 < (x0_1.size : Int)) = True := eq_true (of_decide_eq_true (by first | (with_reducible assumption) | assumption))
                  replace q5 := eq_true q5
                  have p9 : 0 ≤ (1 : Int) := (by omega)
                  have q9 : 1 < x0_1.size := (by have : (1 : Int) < (x0_1.size : Int) := of_decide_eq_true (by first | (with_reducible assumption) | assumption); omega)
                  have hx9 : ∀ h : 1 < x0_1.size, ((x0_1[1]'h).toNat : Int) = bt x0_1 1 := bt_at x0_1 1
                  clear p9
                  have qi9 : (1 < (x0_1.size : Int)) = True := eq_true (of_decide_eq_true (by first | (with_reducible assumption) | assumption))
                  replace q9 := eq_true q9
                  go_wp2_with (first | (go_at_call 37; (with_reducible refine (incipitref05_Sign.calls (bt x0_1 1) t144 _ A10.out).mono ?_); rintro e w' ⟨rfl, ⟨nd, rfl⟩⟩))
                  go_meet
                  case rel => exact ⟨_, (t144), (by first | rfl | (simp; done) | (simp [*]; done)), H', ⟨by have := HK1.out; first | omega | exact Nat.le_refl _⟩, ⟨by repeat (first | (with_reducible first | exact HB.out | apply below_alloc | apply pw_below_drewN | apply below_drew1) | exact HB.out)⟩⟩
                · rw [if_neg c8] at H
                  exact absurd H (by simp)
              · rw [if_neg c7] at H
                have c7b0 : decide (1 < (x0_1.size : Int)) = false := decide_eq_false c7
                have c7b1 : decide (1 < x0_1.size) = false := decide_eq_false (by omega)
                clear c7
                have H' := Aside0.mk H
                clear H
                have p5 : 0 ≤ (0 : Int) := (by omega)
                have q5 : 0 < x0_1.size := (by have : (0 : Int) < (x0_1.size : Int) := of_decide_eq_true (by first | (with_reducible assumption) | assumption); omega)
                have hx5 : ∀ h : 0 < x0_1.size, ((x0_1[0]'h).toNat : Int) = bt x0_1 0 := bt_at x0_1 0
                clear p5
                have qi5 : (0 < (x0_1.size : Int)) = True := eq_true (of_decide_eq_true (by first | (with_reducible assumption) | assumption))
                replace q5 := eq_true q5
                go_wp2
                go_meet
                case rel => exact ⟨_, (false), (by first | rfl | (simp; done) | (simp [*]; done)), H', ⟨by have := HK1.out; first | omega | exact Nat.le_refl _⟩, ⟨by repeat (first | (with_reducible first | exact HB.out | apply below_alloc | apply pw_below_drewN | apply below_drew1) | exact HB.out)⟩⟩
            · rw [if_neg c6] at H
              have c6b0 : ((bt x0_1 0) == 92) = false := beq_eq_false_iff_ne.mpr c6
              have c6b1 : ((bt x0_1 0) != 92) = true := bne_iff_ne.mpr c6
              have H' := Aside0.mk H
              clear H
              have p5 : 0 ≤ (0 : Int) := (by omega)
              have q5 : 0 < x0_1.size := (by have : (0 : Int) < (x0_1.size : Int) := of_decide_eq_true (by first | (with_reducible assumption) | assumption); omega)
              have hx5 : ∀ h : 0 < x0_1.size, ((x0_1[0]'h).toNat : Int) = bt x0_1 0 := bt_at x0_1 0
              clear p5
              have qi5 : (0 < (x0_1.size : Int)) = True := eq_true (of_decide_eq_true (by first | (with_reducible assumption) | assumption))
              replace q5 := eq_true q5
              go_wp2
              go_meet
              case rel => exact ⟨_, (false), (by first | rfl | (simp; done) | (simp [*]; done)), H', ⟨by have := HK1.out; first | omega | exact Nat.le_refl _⟩, ⟨by repeat (first | (with_reducible first | exact HB.out | apply below_alloc | apply pw_below_drewN | apply below_drew1) | exact HB.out)⟩⟩
          · rw [if_neg c4] at H
            exact absurd H (by simp)
        case rest =>
          clear HC3
          try clear c2
          try clear c2b0
          try clear c2b1
          try clear p2
          try clear c4
          try clear c4b0
          try clear c4b1
          try clear p5
          try clear q5
          try clear hx5
          try clear qi5
          try clear c6
          try clear c6b0
          try clear c6b1
          try clear c7
          try clear c7b0
          try clear c7b1
          try clear c8
          try clear c8b0
          try clear c8b1
          try clear p9
          try clear q9
          try clear hx9
          try clear qi9
          try clear p5
          try clear p9
          try clear q5
          try clear q9
          obtain ⟨kq, x21_2, rfl, HA, HJ2, HB⟩ := hcut
          cases kq with
          | zero => exact absurd HA.out (by simp [incipitref05_Unescape.j1])
          | succ kj2 =>
            have H := HA.out
            clear HA
            simp only [incipitref05_Unescape.j1] at H
            by_cases c11 : x21_2 = true
            · subst c11
              have H1 : (if 1 ≤ 2 then (if 2 ≤ (x0_1.size : Int) then (if x3_1.size + (x0_1.extract 1 2).size ≤ 9223372036854775807 then (incipitref05_Unescape.l0 kj2 (x0_1.extract 2 x0_1.size) (x3_1 ++ (x0_1.extract 1 2))) else (none)) else (none)) else (none)) = some r := by rw [if_pos rfl] at H; exact H
              clear H
              have H := H1
              clear H1
              by_cases c12 : 1 ≤ 2
              · rw [if_pos c12] at H
                have c12b0 := eq_true c12
                have c12b1 : decide (1 ≤ 2) = true := decide_eq_true c12
                clear c12
                by_cases c13 : 2 ≤ (x0_1.size : Int)
                · rw [if_pos c13] at H
                  have c13b0 := eq_true c13
                  have c13b1 : decide (2 ≤ (x0_1.size : Int)) = true := decide_eq_true c13
                  clear c13
                  by_cases c14 : x3_1.size + (x0_1.extract 1 2).size ≤ 9223372036854775807
                  · rw [if_pos c14] at H
                    have c14b0 := eq_true c14
                    have c14b1 : decide (x3_1.size + (x0_1.extract 1 2).size ≤ 9223372036854775807) = true := decide_eq_true c14
                    have c14b4 := c14
                    (try simp only [ByteArray.size_append, ByteArray.size_extract, Nat.min_self] at c14b4)
                    (try have c14b5 := Nat.not_lt.2 c14b4)
                    (try have c14b7 : ¬ 9223372036854775807 < x3_1.size + (x0_1.extract 1 2).size := by have hh := c14; simp only [ByteArray.size_append] at hh; exact Nat.not_lt.2 hh)
                    (try have c14b9 : ¬ 9223372036854775807 < x3_1.size + (min 2 x0_1.size - 1) := by have hh := c14; simp only [ByteArray.size_append, ByteArray.size_extract, Nat.min_self] at hh; first | exact Nat.not_lt.2 hh | (have hh2 := hh; simp only [ByteArray.size] at hh2 ⊢; omega))
                    try have c14b2 : (9223372036854775807 < x3_1.size + (x0_1.extract 1 2).size) = False := eq_false (Nat.not_lt.2 c14)
                    have c15b0 := eq_true (of_decide_eq_true (by first | (with_reducible assumption) | assumption) : 2 ≤ (x0_1.size : Int))
                    have H' := Aside0.mk H
                    clear H
                    go_wp2
                    go_roundg kj2
                    case measure => have := HK1.out; have := HJ2.out; omega
                    case rel => exact ⟨(x0_1.extract 2 x0_1.size), (x3_1 ++ (x0_1.extract 1 2)), (by first | rfl | (simp; done) | (simp [*]; done)), (by first | rfl | (simp; done) | (simp [*]; done)), H', ⟨by have := HK1.out; have := HJ2.out; omega⟩, ⟨by repeat (first | (with_reducible first | exact HB.out | apply below_alloc | apply pw_below_drewN | apply below_drew1) | exact HB.out)⟩⟩
                  · rw [if_neg c14] at H
                    exact absurd H (by simp)
                · rw [if_neg c13] at H
                  exact absurd H (by simp)
              · rw [if_neg c12] at H
                exact absurd H (by simp)
            · replace c11 := Bool.eq_false_iff.mpr c11
              subst c11
              have H1 : ((incipitref04_Read.f kj2 x0_1).bind fun bt145 => (if bt145.2 > 0 then (if x3_1.size + bt145.1.size ≤ 9223372036854775807 then (if 0 ≤ bt145.2 then (if bt145.2 ≤ (x0_1.size : Int) then (incipitref05_Unescape.l0 kj2 (x0_1.extract (bt145.2 : Int).toNat x0_1.size) (x3_1 ++ bt145.1)) else (none)) else (none)) else (none)) else (if 0 ≤ 1 then (if 1 ≤ (x0_1.size : Int) then (if x3_1.size + (x0_1.extract 0 1).size ≤ 9223372036854775807 then (incipitref05_Unescape.l0 kj2 (x0_1.extract 1 x0_1.size) (x3_1 ++ (x0_1.extract 0 1))) else (none)) else (none)) else (none)))) = some r := by rw [if_neg (show ¬ (false = true) by decide)] at H; exact H
              clear H
              have H := H1
              clear H1
              replace H := Option.bind_eq_some_iff.mp H
              obtain ⟨⟨t145, t146⟩, A160, H⟩ := H
              replace H : (if t146 > 0 then (if x3_1.size + t145.size ≤ 9223372036854775807 then (if 0 ≤ t146 then (if t146 ≤ (x0_1.size : Int) then (incipitref05_Unescape.l0 kj2 (x0_1.extract (t146 : Int).toNat x0_1.size) (x3_1 ++ t145)) else (none)) else (none)) else (none)) else (if 0 ≤ 1 then (if 1 ≤ (x0_1.size : Int) then (if x3_1.size + (x0_1.extract 0 1).size ≤ 9223372036854775807 then (incipitref05_Unescape.l0 kj2 (x0_1.extract 1 x0_1.size) (x3_1 ++ (x0_1.extract 0 1))) else (none)) else (none)) else (none))) = some r := H
              have A16 := Aside0.mk A160
              clear A160
              by_cases c17 : t146 > 0
              · rw [if_pos c17] at H
                have c17b0 : decide (0 < t146) = true := decide_eq_true c17
                clear c17
                by_cases c18 : x3_1.size + t145.size ≤ 9223372036854775807
                · rw [if_pos c18] at H
                  have c18b0 := eq_true c18
                  have c18b1 : decide (x3_1.size + t145.size ≤ 9223372036854775807) = true := decide_eq_true c18
                  try have c18b2 : (9223372036854775807 < x3_1.size + t145.size) = False := eq_false (Nat.not_lt.2 c18)
                  by_cases c19 : 0 ≤ t146
                  · rw [if_pos c19] at H
                    have c19b0 := eq_true c19
                    have c19b1 : decide (0 ≤ t146) = true := decide_eq_true c19
                    clear c19
                    by_cases c20 : t146 ≤ (x0_1.size : Int)
                    · rw [if_pos c20] at H
                      have c20b0 := eq_true c20
                      have c20b1 : decide (t146 ≤ (x0_1.size : Int)) = true := decide_eq_true c20
                      clear c20
                      have H' := Aside0.mk H
                      clear H
                      go_wp2_with (first | ((with_reducible refine gate_callee (f := 42) rfl ?_); refine goesL_ (some 30) rfl rfl Tryz.func42 (by kernel_rfl) rfl #[.string x0_1] rfl (by (try simp only [List.map_toArray, List.map_cons, List.map_nil]); first | done | rfl | (simp only [List.length_drop, List.length_take]; rfl)) ?_; (with_reducible refine (incipitref04_Read.calls kj2 x0_1 t145 t146 _ A16.out).mono ?_); rintro e w21 ⟨rfl, hb⟩; refine ⟨_, rfl, ?_⟩; have n0_ := Aside0.mk (below_step (by repeat (first | (with_reducible first | exact HB.out | apply below_alloc | apply pw_below_drewN | apply below_drew1) | exact HB.out)) hb); clear HB; have HB := n0_; clear n0_; (try clear hb); (try clear hb2); (try clear hk); (try clear hi)))
                      go_roundg kj2
                      case measure => have := HK1.out; have := HJ2.out; omega
                      case rel => exact ⟨(x0_1.extract (t146 : Int).toNat x0_1.size), (x3_1 ++ t145), (by first | rfl | (simp; done) | (simp [*]; done)), (by first | rfl | (simp; done) | (simp [*]; done)), H', ⟨by have := HK1.out; have := HJ2.out; omega⟩, ⟨by repeat (first | (with_reducible first | exact HB.out | apply below_alloc | apply pw_below_drewN | apply below_drew1) | exact HB.out)⟩⟩
                    · rw [if_neg c20] at H
                      exact absurd H (by simp)
                  · rw [if_neg c19] at H
                    exact absurd H (by simp)
                · rw [if_neg c18] at H
                  exact absurd H (by simp)
              · rw [if_neg c17] at H
                have c17b0 : decide (0 < t146) = false := decide_eq_false c17
                clear c17
                by_cases c22 : 0 ≤ 1
                · rw [if_pos c22] at H
                  have c22b0 := eq_true c22
                  have c22b1 : decide (0 ≤ 1) = true := decide_eq_true c22
                  clear c22
                  by_cases c23 : 1 ≤ (x0_1.size : Int)
                  · rw [if_pos c23] at H
                    have c23b0 := eq_true c23
                    have c23b1 : decide (1 ≤ (x0_1.size : Int)) = true := decide_eq_true c23
                    clear c23
                    by_cases c24 : x3_1.size + (x0_1.extract 0 1).size ≤ 9223372036854775807
                    · rw [if_pos c24] at H
                      have c24b0 := eq_true c24
                      have c24b1 : decide (x3_1.size + (x0_1.extract 0 1).size ≤ 9223372036854775807) = true := decide_eq_true c24
                      have c24b4 := c24
                      (try simp only [ByteArray.size_append, ByteArray.size_extract, Nat.min_self] at c24b4)
                      (try have c24b5 := Nat.not_lt.2 c24b4)
                      (try have c24b7 : ¬ 9223372036854775807 < x3_1.size + (x0_1.extract 0 1).size := by have hh := c24; simp only [ByteArray.size_append] at hh; exact Nat.not_lt.2 hh)
                      (try have c24b9 : ¬ 9223372036854775807 < x3_1.size + min 1 x0_1.size := by have hh := c24; simp only [ByteArray.size_append, ByteArray.size_extract, Nat.min_self] at hh; first | exact Nat.not_lt.2 hh | (have hh2 := hh; simp only [ByteArray.size] at hh2 ⊢; omega))
                      try have c24b2 : (9223372036854775807 < x3_1.size + (x0_1.extract 0 1).size) = False := eq_false (Nat.not_lt.2 c24)
                      have c25b0 := eq_true (of_decide_eq_true (by first | (with_reducible assumption) | assumption) : 1 ≤ (x0_1.size : Int))
                      have H' := Aside0.mk H
                      clear H
                      go_wp2_with (first | ((with_reducible refine gate_callee (f := 42) rfl ?_); refine goesL_ (some 30) rfl rfl Tryz.func42 (by kernel_rfl) rfl #[.string x0_1] rfl (by (try simp only [List.map_toArray, List.map_cons, List.map_nil]); first | done | rfl | (simp only [List.length_drop, List.length_take]; rfl)) ?_; (with_reducible refine (incipitref04_Read.calls kj2 x0_1 t145 t146 _ A16.out).mono ?_); rintro e w26 ⟨rfl, hb⟩; refine ⟨_, rfl, ?_⟩; have n0_ := Aside0.mk (below_step (by repeat (first | (with_reducible first | exact HB.out | apply below_alloc | apply pw_below_drewN | apply below_drew1) | exact HB.out)) hb); clear HB; have HB := n0_; clear n0_; (try clear hb); (try clear hb2); (try clear hk); (try clear hi)))
                      go_roundg kj2
                      case measure => have := HK1.out; have := HJ2.out; omega
                      case rel => exact ⟨(x0_1.extract 1 x0_1.size), (x3_1 ++ (x0_1.extract 0 1)), (by first | rfl | (simp; done) | (simp [*]; done)), (by first | rfl | (simp; done) | (simp [*]; done)), H', ⟨by have := HK1.out; have := HJ2.out; omega⟩, ⟨by repeat (first | (with_reducible first | exact HB.out | apply below_alloc | apply pw_below_drewN | apply below_drew1) | exact HB.out)⟩⟩
                    · rw [if_neg c24] at H
                      exact absurd H (by simp)
                  · rw [if_neg c23] at H
                    exact absurd H (by simp)
                · rw [if_neg c22] at H
                  exact absurd H (by simp)
      · rw [if_neg c2] at H
        have c2b0 : decide (0 < (x0_1.size : Int)) = false := decide_eq_false c2
        have c2b1 : decide (0 < x0_1.size) = false := decide_eq_false (by omega)
        clear c2
        obtain rfl := Option.some.inj H
        go_wp2
        go_ret
        exact ⟨by first | rfl | (simp [errW_none, errW_some] <;> rfl) | (simp [*, errW_none, errW_some] <;> rfl), by repeat (first | (with_reducible first | exact HB.out | apply below_alloc | apply pw_below_drewN | apply below_drew1) | exact HB.out)⟩

/-! ### incipitref09_angled: function 27 -/
mutual
def incipitref09_angled.l0 : Nat → ByteArray → List Bool → Int → Option (ByteArray × Int × Bool)
  | 0, _, _, _ => none
  | k + 1, x0, x5, x6 => if x6 < (x0.size : Int) then (if 0 ≤ x6 then (if (bt x0 x6) = 10 then (incipitref09_angled.j1 k x0 x5 x6 true) else (if (bt x0 x6) = 60 then (if x6 < (x5.length : Int) then (incipitref09_angled.j1 k x0 x5 x6 (!(rdOf false x5 x6))) else (none)) else (incipitref09_angled.j1 k x0 x5 x6 false))) else (none)) else (some ((⟨#[]⟩ : ByteArray), 0, false))
def incipitref09_angled.j1 : Nat → ByteArray → List Bool → Int → Bool → Option (ByteArray × Int × Bool)
  | 0, _, _, _, _ => none
  | k + 1, x0, x5, x6, x31 => if x31 = true then (some ((⟨#[]⟩ : ByteArray), 0, false)) else (if 0 ≤ x6 then (if x6 < (x0.size : Int) then (if (bt x0 x6) = 62 then (if x6 < (x5.length : Int) then (if rdOf false x5 x6 = true then (incipitref09_angled.l0 k x0 x5 (wrap64 (x6 + 1))) else (if 1 ≤ x6 then (if x6 ≤ (x0.size : Int) then ((incipitref05_Unescape.f k (x0.extract 1 (x6 : Int).toNat)).bind fun t152 => (some (t152, wrap64 (x6 + 1), true))) else (none)) else (none))) else (none)) else (incipitref09_angled.l0 k x0 x5 (wrap64 (x6 + 1)))) else (none)) else (none))
end
def incipitref09_angled.f (k : Nat) (a0 : ByteArray) : Option (ByteArray × Int × Bool) := (incipitref09_marks.f k a0).bind fun t147 => (incipitref09_angled.l0 k a0 t147 1)
set_option maxHeartbeats 8000000 in
set_option maxRecDepth 100000 in
theorem incipitref09_angled.calls (k : Nat) (a0 : ByteArray) (r1 : ByteArray) (r2 : Int) (r3 : Bool) (w : World) (h : incipitref09_angled.f k a0 = some (r1, r2, r3)) :
    Calls Tryz.prog 27 #[.string a0] w fun e w' => e = .returned (.tuple #[.string r1, .int .i64 r2, .bool r3]) ∧ Below w.heap.size w w' := by
  have HB := Aside0.mk (Below.refl w.heap.size w)
  have H : ((incipitref09_marks.f k a0).bind fun t147 => (incipitref09_angled.l0 k a0 t147 1)) = some (r1, r2, r3) := h
  clear h
  replace H := Option.bind_eq_some_iff.mp H
  obtain ⟨t147, A20, H⟩ := H
  replace H : (incipitref09_angled.l0 k a0 t147 1) = some (r1, r2, r3) := H
  have A2 := Aside0.mk A20
  clear A20
  have H' := Aside0.mk H
  clear H
  go_enter Tryz.func27, Tryz.ntmps27
  go_wp2_with (first | ((with_reducible refine gate_callee (f := 23) rfl ?_); refine goesL_ (some 8) rfl rfl Tryz.func23 (by kernel_rfl) rfl #[.string a0] rfl (by (try simp only [List.map_toArray, List.map_cons, List.map_nil]); first | done | rfl | (simp only [List.length_drop, List.length_take]; rfl)) ?_; (with_reducible refine (incipitref09_marks.calls k a0 t147 _ A2.out).mono ?_); rintro e w3 ⟨v148, rfl, ho0, hb⟩; refine ⟨_, rfl, ?_⟩; have n0_ := Aside0.mk (Kd.R_lower ho0 (below_size (by repeat (first | (with_reducible first | exact HB.out | apply below_alloc | apply pw_below_drewN | apply below_drew1) | exact HB.out)))); have n1_ := Aside0.mk (below_step (by repeat (first | (with_reducible first | exact HB.out | apply below_alloc | apply pw_below_drewN | apply below_drew1) | exact HB.out)) hb); clear HB; have HO149 := n0_; have HB := n1_; clear n0_ n1_; (try clear hb); (try clear hb2); (try clear hk); (try clear hi); (try clear ho0)))
  go_loopg [6] k (fun kq v6 w' => ∃ (x6_1 : Int), v6 = .int .i64 x6_1 ∧ Aside0 (incipitref09_angled.l0 kq a0 t147 x6_1 = some (r1, r2, r3)) ∧ Aside0 (kq ≤ k) ∧ Aside0 (Kd.R Kd.bool 4 w' w.heap.size (fun _ => True) v148 t147) ∧ Aside0 (Below w.heap.size w w'))
  case atStart => exact ⟨(1), (by first | rfl | (simp; done) | (simp [*]; done)), H', ⟨Nat.le_refl _⟩, ⟨by (with_reducible repeat (first | apply Kd.R_alloc | apply Kd.R_drewN | apply Kd.R_drew)); exact HO149.out⟩, ⟨by repeat (first | (with_reducible first | exact HB.out | apply below_alloc | apply pw_below_drewN | apply below_drew1) | exact HB.out)⟩⟩
  case round =>
    clear H'
    try clear c2
    try clear p2
    obtain ⟨x6_1, rfl, HA, HK1, HO_5, HB⟩ := hrel
    cases gk with
    | zero => exact absurd HA.out (by simp [incipitref09_angled.l0])
    | succ k1 =>
      have H := HA.out
      clear HA
      simp only [incipitref09_angled.l0] at H
      by_cases c4 : x6_1 < (a0.size : Int)
      · rw [if_pos c4] at H
        have c4b0 : decide (x6_1 < (a0.size : Int)) = true := decide_eq_true c4
        clear c4
        have HC5 := Aside0.mk H
        clear H
        go_upto_region 5 with (fail)
        go_cut [31] (fun v31 wc => ∃ (kq : Nat) (x31_4 : Bool), v31 = .bool x31_4 ∧ Aside0 (incipitref09_angled.j1 kq a0 t147 x6_1 x31_4 = some (r1, r2, r3)) ∧ Aside0 (kq ≤ k1) ∧ Aside0 (Kd.R Kd.bool 4 wc w.heap.size (fun _ => True) v148 t147) ∧ Aside0 (Below w.heap.size w wc))
        case first =>
          have H := HC5.out
          clear HC5
          by_cases c6 : 0 ≤ x6_1
          · rw [if_pos c6] at H
            have c6b0 : decide (0 ≤ x6_1) = true := decide_eq_true c6
            clear c6
            (first | rw [c6b0] | (simp only [i64_w, i32_w]; rw [c6b0]) | skip)
            by_cases c8 : (bt a0 x6_1) = 10
            · rw [if_pos c8] at H
              have c8b0 : ((bt a0 x6_1) == 10) = true := beq_iff_eq.mpr c8
              have c8b1 : ((bt a0 x6_1) != 10) = false := bne_eq_false_iff_eq.mpr c8
              clear c8
              have H' := Aside0.mk H
              clear H
              have p7 : 0 ≤ (x6_1 : Int) := of_decide_eq_true (by first | (with_reducible assumption) | assumption)
              have q7 : x6_1 < (a0.size : Int) := of_decide_eq_true (by first | (with_reducible assumption) | assumption)
              have hx7 := bt_at a0 x6_1
              replace p7 := eq_true p7
              replace q7 := eq_true q7
              go_wp2
              go_meet
              case rel => exact ⟨_, (true), (by first | rfl | (simp; done) | (simp [*]; done)), H', ⟨by have := HK1.out; first | omega | exact Nat.le_refl _⟩, ⟨by (with_reducible repeat (first | apply Kd.R_alloc | apply Kd.R_drewN | apply Kd.R_drew)); exact HO_5.out⟩, ⟨by repeat (first | (with_reducible first | exact HB.out | apply below_alloc | apply pw_below_drewN | apply below_drew1) | exact HB.out)⟩⟩
            · rw [if_neg c8] at H
              have c8b0 : ((bt a0 x6_1) == 10) = false := beq_eq_false_iff_ne.mpr c8
              have c8b1 : ((bt a0 x6_1) != 10) = true := bne_iff_ne.mpr c8
              by_cases c10 : (bt a0 x6_1) = 60
              · rw [if_pos c10] at H
                have c10b0 : ((bt a0 x6_1) == 60) = true := beq_iff_eq.mpr c10
                have c10b1 : ((bt a0 x6_1) != 60) = false := bne_eq_false_iff_eq.mpr c10
                clear c10
                by_cases c11 : x6_1 < (t147.length : Int)
                · rw [if_pos c11] at H
                  have c11b0 : decide (x6_1 < (t147.length : Int)) = true := decide_eq_true c11
                  clear c11
                  have H' := Aside0.mk H
                  clear H
                  have p7 : 0 ≤ (x6_1 : Int) := of_decide_eq_true (by first | (with_reducible assumption) | assumption)
                  have q7 : x6_1 < (a0.size : Int) := of_decide_eq_true (by first | (with_reducible assumption) | assumption)
                  have hx7 := bt_at a0 x6_1
                  replace p7 := eq_true p7
                  replace q7 := eq_true q7
                  have p9 : 0 ≤ (x6_1 : Int) := of_decide_eq_true (by first | (with_reducible assumption) | assumption)
                  have q9 : x6_1 < (a0.size : Int) := of_decide_eq_true (by first | (with_reducible assumption) | assumption)
                  have hx9 := bt_at a0 x6_1
                  replace p9 := eq_true p9
                  replace q9 := eq_true q9
                  obtain ⟨Ao12, co12, eo12⟩ := Kd.R_slice HO_5.out
                  subst eo12
                  have p150 : 0 ≤ (x6_1 : Int) := of_decide_eq_true (by first | (with_reducible assumption) | assumption)
                  have q150 : x6_1 < (t147.length : Int) := of_decide_eq_true (by first | (with_reducible assumption) | assumption)
                  obtain ⟨ad150, e150, hx150_0⟩ := Kd.at_bool (Kd.R_reads' HO_5.out).2.2 x6_1 p150 q150
                  cases e150
                  replace p150 := eq_true p150
                  replace q150 := eq_true q150
                  go_wp2
                  go_meet
                  case rel => exact ⟨_, (!(rdOf false t147 x6_1)), (by first | rfl | (simp; done) | (simp [*]; done)), H', ⟨by have := HK1.out; first | omega | exact Nat.le_refl _⟩, ⟨by (with_reducible repeat (first | apply Kd.R_alloc | apply Kd.R_drewN | apply Kd.R_drew)); exact HO_5.out⟩, ⟨by repeat (first | (with_reducible first | exact HB.out | apply below_alloc | apply pw_below_drewN | apply below_drew1) | exact HB.out)⟩⟩
                · rw [if_neg c11] at H
                  exact absurd H (by simp)
              · rw [if_neg c10] at H
                have c10b0 : ((bt a0 x6_1) == 60) = false := beq_eq_false_iff_ne.mpr c10
                have c10b1 : ((bt a0 x6_1) != 60) = true := bne_iff_ne.mpr c10
                have H' := Aside0.mk H
                clear H
                have p7 : 0 ≤ (x6_1 : Int) := of_decide_eq_true (by first | (with_reducible assumption) | assumption)
                have q7 : x6_1 < (a0.size : Int) := of_decide_eq_true (by first | (with_reducible assumption) | assumption)
                have hx7 := bt_at a0 x6_1
                replace p7 := eq_true p7
                replace q7 := eq_true q7
                have p9 : 0 ≤ (x6_1 : Int) := of_decide_eq_true (by first | (with_reducible assumption) | assumption)
                have q9 : x6_1 < (a0.size : Int) := of_decide_eq_true (by first | (with_reducible assumption) | assumption)
                have hx9 := bt_at a0 x6_1
                replace p9 := eq_true p9
                replace q9 := eq_true q9
                go_wp2
                go_meet
                case rel => exact ⟨_, (false), (by first | rfl | (simp; done) | (simp [*]; done)), H', ⟨by have := HK1.out; first | omega | exact Nat.le_refl _⟩, ⟨by (with_reducible repeat (first | apply Kd.R_alloc | apply Kd.R_drewN | apply Kd.R_drew)); exact HO_5.out⟩, ⟨by repeat (first | (with_reducible first | exact HB.out | apply below_alloc | apply pw_below_drewN | apply below_drew1) | exact HB.out)⟩⟩
          · rw [if_neg c6] at H
            exact absurd H (by simp)
        case rest =>
          clear HC5
          try clear c1
          try clear p1
          try clear q1
          try clear hx1
          try clear c2
          try clear p2
          try clear c4
          try clear c4b0
          try clear c6
          try clear c6b0
          try clear p7
          try clear q7
          try clear hx7
          try clear c8
          try clear c8b0
          try clear c8b1
          try clear p9
          try clear q9
          try clear hx9
          try clear c10
          try clear c10b0
          try clear c10b1
          try clear c11
          try clear c11b0
          try clear hx150_0
          try clear p150
          try clear p2
          try clear p7
          try clear p9
          try clear q150
          try clear q7
          try clear q9
          obtain ⟨kq, x31_4, rfl, HA, HJ4, HO_5, HB⟩ := hcut
          cases kq with
          | zero => exact absurd HA.out (by simp [incipitref09_angled.j1])
          | succ kj4 =>
            have H := HA.out
            clear HA
            simp only [incipitref09_angled.j1] at H
            by_cases c13 : x31_4 = true
            · subst c13
              have H1 : (some ((⟨#[]⟩ : ByteArray), 0, false)) = some (r1, r2, r3) := by rw [if_pos rfl] at H; exact H
              clear H
              have H := H1
              clear H1
              simp only [Option.some.injEq, Prod.mk.injEq] at H
              obtain ⟨rfl, rfl, rfl⟩ := H
              go_wp2
              go_ret3
              exact ⟨by first | rfl | (simp [errW_none, errW_some] <;> rfl) | (simp [*, errW_none, errW_some] <;> rfl), by repeat (first | (with_reducible first | exact HB.out | apply below_alloc | apply pw_below_drewN | apply below_drew1) | exact HB.out)⟩
            · replace c13 := Bool.eq_false_iff.mpr c13
              subst c13
              have H1 : (if 0 ≤ x6_1 then (if x6_1 < (a0.size : Int) then (if (bt a0 x6_1) = 62 then (if x6_1 < (t147.length : Int) then (if rdOf false t147 x6_1 = true then (incipitref09_angled.l0 kj4 a0 t147 (wrap64 (x6_1 + 1))) else (if 1 ≤ x6_1 then (if x6_1 ≤ (a0.size : Int) then ((incipitref05_Unescape.f kj4 (a0.extract 1 (x6_1 : Int).toNat)).bind fun t152 => (some (t152, wrap64 (x6_1 + 1), true))) else (none)) else (none))) else (none)) else (incipitref09_angled.l0 kj4 a0 t147 (wrap64 (x6_1 + 1)))) else (none)) else (none)) = some (r1, r2, r3) := by rw [if_neg (show ¬ (false = true) by decide)] at H; exact H
              clear H
              have H := H1
              clear H1
              by_cases c14 : 0 ≤ x6_1
              · rw [if_pos c14] at H
                have c14b0 : decide (0 ≤ x6_1) = true := decide_eq_true c14
                clear c14
                by_cases c15 : x6_1 < (a0.size : Int)
                · rw [if_pos c15] at H
                  have c15b0 : decide (x6_1 < (a0.size : Int)) = true := decide_eq_true c15
                  clear c15
                  by_cases c17 : (bt a0 x6_1) = 62
                  · rw [if_pos c17] at H
                    have c17b0 : ((bt a0 x6_1) == 62) = true := beq_iff_eq.mpr c17
                    have c17b1 : ((bt a0 x6_1) != 62) = false := bne_eq_false_iff_eq.mpr c17
                    clear c17
                    by_cases c18 : x6_1 < (t147.length : Int)
                    · rw [if_pos c18] at H
                      have c18b0 : decide (x6_1 < (t147.length : Int)) = true := decide_eq_true c18
                      clear c18
                      obtain ⟨bq19, hbq19⟩ : ∃ b_ : Bool, b_ = (rdOf false t147 x6_1) := ⟨_, rfl⟩
                      replace H : (if bq19 = true then (incipitref09_angled.l0 kj4 a0 t147 (wrap64 (x6_1 + 1))) else (if 1 ≤ x6_1 then (if x6_1 ≤ (a0.size : Int) then ((incipitref05_Unescape.f kj4 (a0.extract 1 (x6_1 : Int).toNat)).bind fun t152 => (some (t152, wrap64 (x6_1 + 1), true))) else (none)) else (none))) = some (r1, r2, r3) := by rw [← hbq19] at H; exact H
                      have Nbq19 := Aside0.mk hbq19
                      clear hbq19
                      by_cases c20 : bq19 = true
                      · subst c20
                        have H1 : (incipitref09_angled.l0 kj4 a0 t147 (wrap64 (x6_1 + 1))) = some (r1, r2, r3) := by rw [if_pos rfl] at H; exact H
                        clear H
                        have H := H1
                        clear H1
                        have H' := Aside0.mk H
                        clear H
                        have p16 : 0 ≤ (x6_1 : Int) := of_decide_eq_true (by first | (with_reducible assumption) | assumption)
                        have q16 : x6_1 < (a0.size : Int) := of_decide_eq_true (by first | (with_reducible assumption) | assumption)
                        have hx16 := bt_at a0 x6_1
                        replace p16 := eq_true p16
                        replace q16 := eq_true q16
                        obtain ⟨Ao21, co21, eo21⟩ := Kd.R_slice HO_5.out
                        subst eo21
                        have p151 : 0 ≤ (x6_1 : Int) := of_decide_eq_true (by first | (with_reducible assumption) | assumption)
                        have q151 : x6_1 < (t147.length : Int) := of_decide_eq_true (by first | (with_reducible assumption) | assumption)
                        obtain ⟨ad151, e151, hx151_0⟩ := Kd.at_bool (Kd.R_reads' HO_5.out).2.2 x6_1 p151 q151
                        (try rw [← Nbq19.out] at hx151_0)
                        cases e151
                        replace p151 := eq_true p151
                        replace q151 := eq_true q151
                        go_wp2
                        go_roundg kj4
                        case measure => have := HK1.out; have := HJ4.out; omega
                        case rel => exact ⟨(wrap64 (x6_1 + 1)), (by first | rfl | (simp; done) | (simp [*]; done)), H', ⟨by have := HK1.out; have := HJ4.out; omega⟩, ⟨by (with_reducible repeat (first | apply Kd.R_alloc | apply Kd.R_drewN | apply Kd.R_drew)); exact HO_5.out⟩, ⟨by repeat (first | (with_reducible first | exact HB.out | apply below_alloc | apply pw_below_drewN | apply below_drew1) | exact HB.out)⟩⟩
                      · replace c20 := Bool.eq_false_iff.mpr c20
                        subst c20
                        have H1 : (if 1 ≤ x6_1 then (if x6_1 ≤ (a0.size : Int) then ((incipitref05_Unescape.f kj4 (a0.extract 1 (x6_1 : Int).toNat)).bind fun t152 => (some (t152, wrap64 (x6_1 + 1), true))) else (none)) else (none)) = some (r1, r2, r3) := by rw [if_neg (show ¬ (false = true) by decide)] at H; exact H
                        clear H
                        have H := H1
                        clear H1
                        by_cases c22 : 1 ≤ x6_1
                        · rw [if_pos c22] at H
                          have c22b0 := eq_true c22
                          have c22b1 : decide (1 ≤ x6_1) = true := decide_eq_true c22
                          clear c22
                          by_cases c23 : x6_1 ≤ (a0.size : Int)
                          · rw [if_pos c23] at H
                            have c23b0 := eq_true c23
                            have c23b1 : decide (x6_1 ≤ (a0.size : Int)) = true := decide_eq_true c23
                            clear c23
                            replace H := Option.bind_eq_some_iff.mp H
                            obtain ⟨t152, A240, H⟩ := H
                            replace H : (some (t152, wrap64 (x6_1 + 1), true)) = some (r1, r2, r3) := H
                            have A24 := Aside0.mk A240
                            clear A240
                            simp only [Option.some.injEq, Prod.mk.injEq] at H
                            obtain ⟨rfl, rfl, rfl⟩ := H
                            have p16 : 0 ≤ (x6_1 : Int) := of_decide_eq_true (by first | (with_reducible assumption) | assumption)
                            have q16 : x6_1 < (a0.size : Int) := of_decide_eq_true (by first | (with_reducible assumption) | assumption)
                            have hx16 := bt_at a0 x6_1
                            replace p16 := eq_true p16
                            replace q16 := eq_true q16
                            obtain ⟨Ao25, co25, eo25⟩ := Kd.R_slice HO_5.out
                            subst eo25
                            have p151 : 0 ≤ (x6_1 : Int) := of_decide_eq_true (by first | (with_reducible assumption) | assumption)
                            have q151 : x6_1 < (t147.length : Int) := of_decide_eq_true (by first | (with_reducible assumption) | assumption)
                            obtain ⟨ad151, e151, hx151_0⟩ := Kd.at_bool (Kd.R_reads' HO_5.out).2.2 x6_1 p151 q151
                            (try rw [← Nbq19.out] at hx151_0)
                            cases e151
                            replace p151 := eq_true p151
                            replace q151 := eq_true q151
                            go_wp2_with (first | ((with_reducible refine gate_callee (f := 28) rfl ?_); refine goesL_ (some 46) rfl rfl Tryz.func28 (by kernel_rfl) rfl #[.string (a0.extract 1 (x6_1 : Int).toNat)] rfl (by (try simp only [List.map_toArray, List.map_cons, List.map_nil]); first | done | rfl | (simp only [List.length_drop, List.length_take]; rfl)) ?_; (with_reducible refine (incipitref05_Unescape.calls kj4 (a0.extract 1 (x6_1 : Int).toNat) t152 _ A24.out).mono ?_); rintro e w26 ⟨rfl, hb⟩; refine ⟨_, rfl, ?_⟩; have n0_ := Aside0.mk (Kd.R_below (by (with_reducible repeat (first | apply Kd.R_alloc | apply Kd.R_drewN | apply Kd.R_drew)); exact HO_5.out) hb); have n1_ := Aside0.mk (below_step (by repeat (first | (with_reducible first | exact HB.out | apply below_alloc | apply pw_below_drewN | apply below_drew1) | exact HB.out)) hb); clear HO_5; clear HB; have HO_5 := n0_; have HB := n1_; clear n0_ n1_; (try clear hb); (try clear hb2); (try clear hk); (try clear hi)))
                            go_ret3
                            exact ⟨by first | rfl | (simp [errW_none, errW_some] <;> rfl) | (simp [*, errW_none, errW_some] <;> rfl), by repeat (first | (with_reducible first | exact HB.out | apply below_alloc | apply pw_below_drewN | apply below_drew1) | exact HB.out)⟩
                          · rw [if_neg c23] at H
                            exact absurd H (by simp)
                        · rw [if_neg c22] at H
                          exact absurd H (by simp)
                    · rw [if_neg c18] at H
                      exact absurd H (by simp)
                  · rw [if_neg c17] at H
                    have c17b0 : ((bt a0 x6_1) == 62) = false := beq_eq_false_iff_ne.mpr c17
                    have c17b1 : ((bt a0 x6_1) != 62) = true := bne_iff_ne.mpr c17
                    have H' := Aside0.mk H
                    clear H
                    have p16 : 0 ≤ (x6_1 : Int) := of_decide_eq_true (by first | (with_reducible assumption) | assumption)
                    have q16 : x6_1 < (a0.size : Int) := of_decide_eq_true (by first | (with_reducible assumption) | assumption)
                    have hx16 := bt_at a0 x6_1
                    replace p16 := eq_true p16
                    replace q16 := eq_true q16
                    go_wp2
                    go_roundg kj4
                    case measure => have := HK1.out; have := HJ4.out; omega
                    case rel => exact ⟨(wrap64 (x6_1 + 1)), (by first | rfl | (simp; done) | (simp [*]; done)), H', ⟨by have := HK1.out; have := HJ4.out; omega⟩, ⟨by (with_reducible repeat (first | apply Kd.R_alloc | apply Kd.R_drewN | apply Kd.R_drew)); exact HO_5.out⟩, ⟨by repeat (first | (with_reducible first | exact HB.out | apply below_alloc | apply pw_below_drewN | apply below_drew1) | exact HB.out)⟩⟩
                · rw [if_neg c15] at H
                  exact absurd H (by simp)
              · rw [if_neg c14] at H
                exact absurd H (by simp)
      · rw [if_neg c4] at H
        have c4b0 : decide (x6_1 < (a0.size : Int)) = false := decide_eq_false c4
        clear c4
        simp only [Option.some.injEq, Prod.mk.injEq] at H
        obtain ⟨rfl, rfl, rfl⟩ := H
        go_wp2
        go_ret3
        exact ⟨by first | rfl | (simp [errW_none, errW_some] <;> rfl) | (simp [*, errW_none, errW_some] <;> rfl), by repeat (first | (with_reducible first | exact HB.out | apply below_alloc | apply pw_below_drewN | apply below_drew1) | exact HB.out)⟩

end Go.Proofs.YtjobchgncdgfaaaGreatDoor.PA

namespace Go.Proofs.YtjobchgncdgfaaaGreatDoor.Pure
open Go.RowKit Go.Proofs.YtjobchgncdgfaaaGreatDoorW.PrintWords Go.Proofs.YtjobchgncdgfaaaGreatDoorW.PrintMore Go.Proofs.YtjobchgncdgfaaaGreatDoor.Pl Go.Proofs.YtjobchgncdgfaaaGreatDoor.PA

/-! #### names, one after the other -/
theorem rd_row (i : Nat) (hi : i < 183) : rd_T79 rtS (i : Int) = ⟨B (enm i), enn i⟩ := by
  have hl : i < entL.length := by rw [entL_len]; exact hi
  unfold rd_T79 rtS
  rw [Int.toNat_natCast, List.getD_eq_getElem?_getD, List.getElem?_map, List.getElem?_eq_getElem hl]
  have e1 : enm i = entL[i].1 := by unfold enm; rw [List.getD_eq_getElem?_getD, List.getElem?_eq_getElem hl]; rfl
  have e2 : enn i = ((entL[i].2 : Nat) : Int) := by unfold enn; rw [List.getD_eq_getElem?_getD, List.getElem?_eq_getElem hl]; rfl
  rw [e1, e2]
  rfl
theorem rtS_len : rtS.length = 183 := by unfold rtS; rw [List.length_map, entL_len]
theorem named_l (t : List UInt8) : ∀ (d i : Nat), i + d = 183 → (∀ k, k < i → enm k ≠ t) → Ev (fun k => incipitref04_Named.l0 k (B t) rtS (i : Int)) (nmd t) := by
  intro d
  induction d with
  | zero =>
    intro i hi hn
    rw [nmd_miss t (fun k hk => hn k (by omega))]
    refine Ev.step (f := fun _ => some (⟨#[]⟩, false)) (fun k => ?_) (Ev.now _)
    simp only [incipitref04_Named.l0]
    rw [rtS_len, if_neg (by omega)]
  | succ d ih =>
    intro i hi hn
    have hil : i < 183 := by omega
    by_cases h : enm i = t
    · subst h
      rw [nmd_hit i hil]
      refine Ev.step (f := fun _ => some (Go.Utf8.encode (enn i), true)) (fun k => ?_) (Ev.now _)
      simp only [incipitref04_Named.l0]
      rw [rtS_len, if_pos (by omega), if_pos (by omega), rd_row i hil, if_pos rfl]
    · refine Ev.step (fun k => ?_) (ih (i + 1) (by omega) (fun k hk => ?_))
      · simp only [incipitref04_Named.l0]
        rw [rtS_len, if_pos (by omega), if_pos (by omega), rd_row i hil, if_neg (by rw [B_toList, B_toList]; exact h), w64 (by omega) (by omega)]
        rfl
      · rcases Nat.lt_succ_iff_lt_or_eq.1 hk with h1 | rfl
        · exact hn k h1
        · exact h
theorem rnamed_ev (t : List UInt8) : Ev (fun k => incipitref04_Named.f k (B t)) (nmd t) := by
  unfold incipitref04_Named.f incipitref04_Table.f
  exact named_l t 183 0 rfl (fun k hk => by omega)
/-! #### the end -/
theorem end_l (s : List UInt8) (hs : s.length ≤ 1073741824) : ∀ (d i : Nat), i + d = s.length → (∀ x ∈ s.take i, x ≠ 59) → Ev (fun k => incipitref04_end.l0 k (B s) (i : Int)) (if (59 : UInt8) ∈ s.drop i then (i : Int) + ((upto (s.drop i)).length : Int) else -1) := by
  intro d
  induction d with
  | zero =>
    intro i hi hn
    rw [List.drop_of_length_le (by omega), if_neg (by simp)]
    refine Ev.step (f := fun _ => some (-1)) (fun k => ?_) (Ev.now _)
    simp only [incipitref04_end.l0]
    rw [if_neg (by rw [B_size]; omega)]
  | succ d ih =>
    intro i hi hn
    have hil : i < s.length := by omega
    have h59 : ((s[i].toNat : Int) = 59) ↔ s[i] = 59 := u8_eq _ 59 (by omega)
    rw [List.drop_eq_getElem_cons hil]
    by_cases h : s[i] = 59
    · rw [if_pos (by rw [h]; simp), upto, if_pos h]
      refine Ev.step (f := fun _ => some ((i : Int) + (([] : List UInt8).length : Int))) (fun k => ?_) (Ev.now _)
      simp only [incipitref04_end.l0]
      rw [if_pos (by rw [B_size]; omega), if_pos (by omega), B_bt s i hil, if_pos (h59.2 h)]
      simp
    · have hm : (59 : UInt8) ∈ s[i] :: s.drop (i + 1) ↔ (59 : UInt8) ∈ s.drop (i + 1) := by rw [List.mem_cons]; exact ⟨fun h' => h'.resolve_left (fun e => h e.symm), .inr⟩
      have hv : (if (59 : UInt8) ∈ s[i] :: s.drop (i + 1) then (i : Int) + ((upto (s[i] :: s.drop (i + 1))).length : Int) else -1) = if (59 : UInt8) ∈ s.drop (i + 1) then ((i + 1 : Nat) : Int) + ((upto (s.drop (i + 1))).length : Int) else -1 := by
        rw [upto, if_neg h, List.length_cons]
        by_cases h' : (59 : UInt8) ∈ s.drop (i + 1)
        · rw [if_pos h', if_pos (hm.2 h')]
          omega
        · rw [if_neg h', if_neg (fun e => h' (hm.1 e))]
      rw [hv]
      refine Ev.step (fun k => ?_) (ih (i + 1) (by omega) (fun x hx => ?_))
      · simp only [incipitref04_end.l0]
        rw [if_pos (by rw [B_size]; omega), if_pos (by omega), B_bt s i hil, if_neg (fun e => h (h59.1 e)), w64 (by omega) (by omega)]
        rfl
      · rw [List.take_succ_eq_append_getElem hil, List.mem_append, List.mem_singleton] at hx
        rcases hx with e | e
        · exact hn x e
        · rw [e]; exact h
theorem end_ev (s : List UInt8) (hs : s.length ≤ 1073741824) : Ev (fun k => incipitref04_end.f k (B s)) (if (59 : UInt8) ∈ s then ((upto s).length : Int) else -1) := by
  unfold incipitref04_end.f
  have h := end_l s hs s.length 0 (Nat.zero_add _) (by simp)
  rw [List.drop_zero] at h
  simpa using h
/-! #### numbers -/
/-- The digit's search: places left, the answer so far. -/
def inn (b c : Nat) : Nat → Int → Int
  | 0, d => d
  | n + 1, d => if c = ([48, 49, 50, 51, 52, 53, 54, 55, 56, 57, 97, 98, 99, 100, 101, 102] : List Nat).getD (b - (n + 1)) 0 then inn b c n ((b - (n + 1) : Nat) : Int) else if c = ([48, 49, 50, 51, 52, 53, 54, 55, 56, 57, 65, 66, 67, 68, 69, 70] : List Nat).getD (b - (n + 1)) 0 then inn b c n ((b - (n + 1) : Nat) : Int) else inn b c n d
theorem inn10 : ∀ c : Fin 256, inn 10 c.val 10 (-1) = if dOk 10 (UInt8.ofNat c.val) then (dv (UInt8.ofNat c.val) : Int) else -1 := by decide +kernel
theorem inn16 : ∀ c : Fin 256, inn 16 c.val 16 (-1) = if dOk 16 (UInt8.ofNat c.val) then (dv (UInt8.ofNat c.val) : Int) else -1 := by decide +kernel
theorem inn_eq (b : Nat) (hb : b = 10 ∨ b = 16) (x : UInt8) : inn b x.toNat b (-1) = if dOk b x then (dv x : Int) else -1 := by
  have hx : UInt8.ofNat x.toNat = x := by simp
  rcases hb with rfl | rfl
  · have h := inn10 ⟨x.toNat, x.toNat_lt⟩
    rwa [hx] at h
  · have h := inn16 ⟨x.toNat, x.toNat_lt⟩
    rwa [hx] at h
theorem lowB (j : Nat) (h : j < 16) : bt (⟨#[48, 49, 50, 51, 52, 53, 54, 55, 56, 57, 97, 98, 99, 100, 101, 102]⟩ : ByteArray) (j : Int) = ((([48, 49, 50, 51, 52, 53, 54, 55, 56, 57, 97, 98, 99, 100, 101, 102] : List Nat).getD j 0 : Nat) : Int) := by
  have h0 : ∀ i : Fin 16, bt (⟨#[48, 49, 50, 51, 52, 53, 54, 55, 56, 57, 97, 98, 99, 100, 101, 102]⟩ : ByteArray) (i.val : Int) = ((([48, 49, 50, 51, 52, 53, 54, 55, 56, 57, 97, 98, 99, 100, 101, 102] : List Nat).getD i.val 0 : Nat) : Int) := by decide +kernel
  exact h0 ⟨j, h⟩
theorem uppB (j : Nat) (h : j < 16) : bt (⟨#[48, 49, 50, 51, 52, 53, 54, 55, 56, 57, 65, 66, 67, 68, 69, 70]⟩ : ByteArray) (j : Int) = ((([48, 49, 50, 51, 52, 53, 54, 55, 56, 57, 65, 66, 67, 68, 69, 70] : List Nat).getD j 0 : Nat) : Int) := by
  have h0 : ∀ i : Fin 16, bt (⟨#[48, 49, 50, 51, 52, 53, 54, 55, 56, 57, 65, 66, 67, 68, 69, 70]⟩ : ByteArray) (i.val : Int) = ((([48, 49, 50, 51, 52, 53, 54, 55, 56, 57, 65, 66, 67, 68, 69, 70] : List Nat).getD i.val 0 : Nat) : Int) := by decide +kernel
  exact h0 ⟨j, h⟩
theorem num_in (b : Nat) (hb : b = 10 ∨ b = 16) (s : List UInt8) (_hs : s.length ≤ 7) (i : Nat) (hi : i < s.length) (n : Int) (r : Int) : ∀ (m : Nat) (d : Int), m ≤ b →
    (inn b s[i].toNat m d < 0 → r = -1) → (0 ≤ inn b s[i].toNat m d → Ev (fun k => incipitref04_number.l0 k (B s) (b : Int) (wrap64 (wrap64 (n * b) + inn b s[i].toNat m d)) (wrap64 ((i : Int) + 1))) r) →
    Ev (fun k => incipitref04_number.l1 k (B s) (b : Int) n (i : Int) d ((b - m : Nat) : Int)) r := by
  intro m
  induction m with
  | zero =>
    intro d hm h1 h2
    rw [inn] at h1 h2
    by_cases h : d < 0
    · rw [h1 h]
      refine Ev.step (f := fun _ => some (-1)) (fun k => ?_) (Ev.now _)
      simp only [incipitref04_number.l1]
      rw [if_neg (by omega), if_pos h]
    · refine Ev.step (fun k => ?_) (h2 (by omega))
      simp only [incipitref04_number.l1]
      rw [if_neg (by omega), if_neg h]
  | succ m ih =>
    intro d hm h1 h2
    rw [inn] at h1 h2
    have hb16 : b ≤ 16 := by omega
    have e1 : (((b - (m + 1) : Nat) : Int) + 1) = ((b - m : Nat) : Int) := by omega
    have hstep : ∀ k, incipitref04_number.l1 (k + 1) (B s) (b : Int) n (i : Int) d ((b - (m + 1) : Nat) : Int) =
        if s[i].toNat = ([48, 49, 50, 51, 52, 53, 54, 55, 56, 57, 97, 98, 99, 100, 101, 102] : List Nat).getD (b - (m + 1)) 0 then incipitref04_number.l1 k (B s) (b : Int) n (i : Int) ((b - (m + 1) : Nat) : Int) ((b - m : Nat) : Int)
        else if s[i].toNat = ([48, 49, 50, 51, 52, 53, 54, 55, 56, 57, 65, 66, 67, 68, 69, 70] : List Nat).getD (b - (m + 1)) 0 then incipitref04_number.l1 k (B s) (b : Int) n (i : Int) ((b - (m + 1) : Nat) : Int) ((b - m : Nat) : Int)
        else incipitref04_number.l1 k (B s) (b : Int) n (i : Int) d ((b - m : Nat) : Int) := by
      intro k
      simp only [incipitref04_number.l1]
      rw [if_pos (by omega), if_pos (by omega), if_pos (by rw [B_size]; omega), if_pos (by omega), if_pos (by omega), B_bt s i hi, lowB _ (by omega), uppB _ (by omega), w64 (by omega) (by omega), e1]
      simp only [Int.natCast_inj]
    by_cases c1 : s[i].toNat = ([48, 49, 50, 51, 52, 53, 54, 55, 56, 57, 97, 98, 99, 100, 101, 102] : List Nat).getD (b - (m + 1)) 0
    · rw [if_pos c1] at h1 h2
      refine Ev.step (fun k => ?_) (ih _ (by omega) h1 h2)
      rw [hstep, if_pos c1]
    · rw [if_neg c1] at h1 h2
      by_cases c2 : s[i].toNat = ([48, 49, 50, 51, 52, 53, 54, 55, 56, 57, 65, 66, 67, 68, 69, 70] : List Nat).getD (b - (m + 1)) 0
      · rw [if_pos c2] at h1 h2
        refine Ev.step (fun k => ?_) (ih _ (by omega) h1 h2)
        rw [hstep, if_neg c1, if_pos c2]
      · rw [if_neg c2] at h1 h2
        refine Ev.step (fun k => ?_) (ih _ (by omega) h1 h2)
        rw [hstep, if_neg c1, if_neg c2]
theorem wr2 (N b D : Nat) (h : N * b ≤ 4294967296) (hD : D < 256) : wrap64 (wrap64 ((N : Int) * (b : Int)) + (D : Int)) = ((N * b + D : Nat) : Int) := by
  rw [← Int.natCast_mul]
  generalize N * b = M at h ⊢
  rw [w64 (x := (M : Int)) (by omega) (by omega), w64 (by omega) (by omega)]
  rfl
theorem num_l (b : Nat) (hb : b = 10 ∨ b = 16) (s : List UInt8) (hs : s.length ≤ 7) : ∀ (d i : Nat), i + d = s.length → (∀ x ∈ s.take i, dOk b x) →
    Ev (fun k => incipitref04_number.l0 k (B s) (b : Int) (num b (s.take i) : Int) (i : Int)) (if ∀ x ∈ s, dOk b x then (num b s : Int) else -1) := by
  intro d
  induction d with
  | zero =>
    intro i hi hn
    rw [List.take_of_length_le (by omega)] at hn ⊢
    rw [if_pos hn]
    refine Ev.step (f := fun _ => some (num b s : Int)) (fun k => ?_) (Ev.now _)
    simp only [incipitref04_number.l0]
    rw [if_neg (by rw [B_size]; omega)]
  | succ d ih =>
    intro i hi hn
    have hil : i < s.length := by omega
    have hin := inn_eq b hb s[i]
    have hlt := num_lt b hb i (s.take i) (by rw [List.length_take]; omega) hn
    have h16 : 16 ^ i ≤ 268435456 := Nat.le_trans (Nat.pow_le_pow_right (by omega) (show i ≤ 7 by omega)) (by decide)
    have hmul : num b (s.take i) * b ≤ 268435456 * 16 := Nat.mul_le_mul (by omega) (by omega)
    have hdv : ∀ h : dOk b s[i], dv s[i] < b := fun h => dv_le b s[i] h hb
    refine Ev.step (fun k => ?_) (num_in b hb s hs i hil (num b (s.take i) : Int) _ b (-1) (Nat.le_refl _) (fun h => ?_) (fun h => ?_))
    · simp only [incipitref04_number.l0]
      rw [if_pos (by rw [B_size]; omega), Nat.sub_self]
      rfl
    · rw [hin] at h
      by_cases hd : dOk b s[i]
      · rw [if_pos hd] at h
        omega
      · rw [if_neg (fun e => hd (e _ (List.getElem_mem hil)))]
    · rw [hin] at h ⊢
      by_cases hd : dOk b s[i]
      · rw [if_pos hd]
        have hdl := hdv hd
        have h2 := ih (i + 1) (by omega) (fun x hx => by
          rw [List.take_succ_eq_append_getElem hil, List.mem_append, List.mem_singleton] at hx
          rcases hx with e | e
          · exact hn x e
          · rw [e]; exact hd)
        rw [List.take_succ_eq_append_getElem hil, num_snoc] at h2
        have e1 : wrap64 (wrap64 ((num b (s.take i) : Int) * (b : Int)) + (dv s[i] : Int)) = ((num b (s.take i) * b + dv s[i] : Nat) : Int) :=
           wr2 _ _ _ (by omega) (by omega)
        rw [e1, w64 (by omega) (by omega)]
        exact h2
      · rw [if_neg hd] at h
        omega
/-- The number of a reference, or -1. -/
def rnum (b most : Nat) (s : List UInt8) : Int := if s = [] ∨ most < s.length then -1 else if ∀ x ∈ s, dOk b x then (num b s : Int) else -1
theorem rnum_ev (b most : Nat) (hb : b = 10 ∨ b = 16) (hm : most ≤ 7) (s : List UInt8) (hs : s.length ≤ 1073741824) : Ev (fun k => incipitref04_number.f k (B s) (b : Int) (most : Int)) (rnum b most s) := by
  unfold incipitref04_number.f rnum
  have hj : ∀ c : Bool, (c = true → (if s = [] ∨ most < s.length then -1 else if ∀ x ∈ s, dOk b x then (num b s : Int) else -1) = -1) → (c = false → ¬ (s = [] ∨ most < s.length)) → Ev (fun k => incipitref04_number.j0 k (B s) (b : Int) c) (if s = [] ∨ most < s.length then -1 else if ∀ x ∈ s, dOk b x then (num b s : Int) else -1) := by
    intro c h1 h2
    cases c with
    | true =>
      rw [h1 rfl]
      refine Ev.step (f := fun _ => some (-1)) (fun k => ?_) (Ev.now _)
      simp only [incipitref04_number.j0, if_true]
    | false =>
      have h3 := h2 rfl
      rw [if_neg h3]
      rw [not_or] at h3
      refine Ev.step (fun k => ?_) (num_l b hb s (by omega) s.length 0 (Nat.zero_add _) (by simp))
      simp only [incipitref04_number.j0]
      rw [if_neg (by simp)]
      rfl
  by_cases h0 : s = []
  · refine Ev.congr (fun k => ?_) (hj true (fun _ => by rw [if_pos (.inl h0)]) (fun e => by cases e))
    rw [if_pos (by rw [B_size, h0]; rfl)]
  · have hl : 0 < s.length := List.length_pos_iff.2 h0
    refine Ev.congr (fun k => ?_) (hj (decide (((B s).size : Int) > (most : Int))) (fun e => ?_) (fun e => ?_))
    · rw [if_neg (by rw [B_size]; omega)]
    · have := of_decide_eq_true e
      rw [B_size] at this
      rw [if_pos (.inr (by omega))]
    · have := of_decide_eq_false e
      rw [B_size] at this
      rintro (e | e)
      · exact h0 e
      · omega

/-- What is answered, by the character and the place of the ;. -/
def resE (c : ByteArray × Bool) (e : Int) : ByteArray × Int := if c.2 = true then (c.1, e + 1) else (⟨#[]⟩, 0)
theorem rd_no (a : ByteArray) (e : Int) : Ev (fun k => incipitref04_Read.j0 k a e true) ((⟨#[]⟩, 0) : ByteArray × Int) := by
  refine Ev.step (f := fun _ => some (⟨#[]⟩, 0)) (fun k => ?_) (Ev.now _)
  simp only [incipitref04_Read.j0, if_true]
theorem j2_ev (e : Nat) (he : e ≤ 1073741824) (b most : Nat) (hb : b = 10 ∨ b = 16) (hm : most ≤ 7) (ok : UInt8 → Bool) (hok : ∀ x, ok x = true ↔ dOk b x) (t : List UInt8) :
    Ev (fun k => incipitref04_Read.j2 k (e : Int) (rnum b most t)) (resE (chr b most ok t) (e : Int)) := by
  have hall : t.all ok = true ↔ ∀ x ∈ t, dOk b x := by rw [List.all_eq_true]; exact ⟨fun h x hx => (hok x).1 (h x hx), fun h x hx => (hok x).2 (h x hx)⟩
  have hneg : rnum b most t = -1 → (chr b most ok t).2 = false → Ev (fun k => incipitref04_Read.j2 k (e : Int) (rnum b most t)) (resE (chr b most ok t) (e : Int)) := by
    intro h1 h2
    rw [h1]
    unfold resE
    rw [h2, if_neg (by decide)]
    refine Ev.step (f := fun _ => some (⟨#[]⟩, 0)) (fun k => ?_) (Ev.now _)
    simp only [incipitref04_Read.j2]
    rw [if_pos (by decide)]
  by_cases h1 : t = [] ∨ most < t.length
  · refine hneg (by unfold rnum; rw [if_pos h1]) ?_
    unfold chr
    rw [if_pos (by rcases h1 with h | h; exact .inl h; exact .inr (.inl h))]
  · by_cases h2 : ∀ x ∈ t, dOk b x
    · have hlt := num_lt b hb t.length t rfl h2
      have hlen : t.length ≤ 7 := by rw [not_or] at h1; omega
      have h16 : 16 ^ t.length ≤ 268435456 := Nat.le_trans (Nat.pow_le_pow_right (by omega) hlen) (by decide)
      have hr : rnum b most t = (num b t : Int) := by unfold rnum; rw [if_neg h1, if_pos h2]
      have hc : chr b most ok t = (Go.Utf8.encode (fixr (num b t)), true) := by
        unfold chr
        rw [if_neg]
        rintro (h | h | h)
        · exact h1 (.inl h)
        · exact h1 (.inr h)
        · rw [hall.2 h2] at h; cases h
      rw [hr, hc]
      unfold resE
      rw [if_pos rfl]
      generalize num b t = n at hlt
      clear hr hc hneg h1 h2
      have hn : n ≤ 268435456 := by omega
      clear hlt h16
      refine Ev.step (f := fun _ => some (Go.Utf8.encode (fixr n), (e : Int) + 1)) (fun k => ?_) (Ev.now _)
      simp only [incipitref04_Read.j2]
      rw [if_neg (by omega), w64 (x := (e : Int) + 1) (by omega) (by omega)]
      unfold fixr Lib.validRune
      by_cases c0 : n = 0
      · rw [if_pos (by omega), if_pos (.inl c0)]
      · rw [if_neg (by omega)]
        have hw : wrap32 (n : Int) = if n ≤ 1114111 then (n : Int) else wrap32 (n : Int) := by
          split
          · unfold wrap32; omega
          · rfl
        by_cases c1 : (n : Int) ≥ 55296
        · rw [if_pos c1]
          by_cases c2 : (n : Int) ≤ 57343
          · rw [if_pos c2, if_pos (.inr (by rw [decide_eq_false_iff_not]; omega))]
          · rw [if_neg c2]
            by_cases c3 : (n : Int) > 1114111
            · rw [if_pos c3, if_pos (.inr (by rw [decide_eq_false_iff_not]; omega))]
            · rw [if_neg c3, if_neg (by rw [not_or]; refine ⟨c0, ?_⟩; rw [decide_eq_false_iff_not, Classical.not_not]; omega), hw, if_pos (by omega)]
        · rw [if_neg c1, if_neg (show ¬ (n : Int) > 1114111 by omega), if_neg (by rw [not_or]; refine ⟨c0, ?_⟩; rw [decide_eq_false_iff_not, Classical.not_not]; omega), hw, if_pos (by omega)]
    · refine hneg (by unfold rnum; rw [if_neg h1, if_neg h2]) ?_
      unfold chr
      rw [if_pos (.inr (.inr (by cases ha : t.all ok with | true => exact absurd (hall.1 ha) h2 | false => rfl)))]
theorem dg_ok (x : UInt8) : dg x = true ↔ dOk 10 x := by unfold dg dOk; rw [decide_eq_true_iff]; omega
theorem hxd_ok (x : UInt8) : hxd x = true ↔ dOk 16 x := by unfold hxd; rw [decide_eq_true_iff]
theorem j1_hex (y : UInt8) (t : List UInt8) (hs : t.length ≤ 1073741820) : Ev (fun k => incipitref04_Read.j1 k (B (38 :: 35 :: y :: t)) (((upto t).length + 3 : Nat) : Int) true) (resE (chr 16 6 hxd (upto t)) (((upto t).length + 3 : Nat) : Int)) := by
  have hl := upto_len t
  refine Ev.step (f := fun k => (incipitref04_number.f k (B (upto t)) 16 6).bind fun t123 => (incipitref04_Read.j2 k (((upto t).length + 3 : Nat) : Int) t123)) (fun k => ?_) (Ev.bind (rnum_ev 16 6 (.inr rfl) (by decide) (upto t) (by omega)) (j2_ev ((upto t).length + 3) (by omega) 16 6 (.inr rfl) (by decide) hxd hxd_ok _))
  simp only [incipitref04_Read.j1]
  rw [if_pos trivial, if_pos (by omega), if_pos (by rw [B_size]; simp only [List.length_cons]; omega), B_extract, Int.toNat_natCast, Nat.add_sub_cancel]
  show (incipitref04_number.f k (B (t.take (upto t).length)) 16 6).bind _ = _
  rw [upto_take]
theorem j1_dec (t : List UInt8) (hs : t.length ≤ 1073741820) : Ev (fun k => incipitref04_Read.j1 k (B (38 :: 35 :: t)) (((upto t).length + 2 : Nat) : Int) false) (resE (chr 10 7 dg (upto t)) (((upto t).length + 2 : Nat) : Int)) := by
  have hl := upto_len t
  refine Ev.step (f := fun k => (incipitref04_number.f k (B (upto t)) 10 7).bind fun t124 => (incipitref04_Read.j2 k (((upto t).length + 2 : Nat) : Int) t124)) (fun k => ?_) (Ev.bind (rnum_ev 10 7 (.inl rfl) (by decide) (upto t) (by omega)) (j2_ev ((upto t).length + 2) (by omega) 10 7 (.inl rfl) (by decide) dg dg_ok _))
  simp only [incipitref04_Read.j1]
  rw [if_neg (by simp), if_pos (by omega), if_pos (by rw [B_size]; simp only [List.length_cons]; omega), B_extract, Int.toNat_natCast, Nat.add_sub_cancel]
  show (incipitref04_number.f k (B (t.take (upto t).length)) 10 7).bind _ = _
  rw [upto_take]
theorem or_x : ∀ y : UInt8, (y.toNat ||| 32) = 120 ↔ y = 120 ∨ y = 88 := by
  have h : ∀ y : Fin 256, (y.val ||| 32) = 120 ↔ y.val = 120 ∨ y.val = 88 := by decide +kernel
  intro y
  rw [h ⟨y.toNat, y.toNat_lt⟩]
  constructor
  · rintro (e | e)
    · exact .inl (UInt8.toNat_inj.1 e)
    · exact .inr (UInt8.toNat_inj.1 e)
  · rintro (rfl | rfl)
    · exact .inl rfl
    · exact .inr rfl
theorem nmd_nil : nmd [] = (⟨#[]⟩, false) := nmd_miss [] (fun k hk e => by have := (enm_facts k hk).1; rw [e] at this; simp at this)
/-- Behind &: the reference's answer where something stands ahead of the ;. -/
theorem j0_ev (x1 : UInt8) (t1 : List UInt8) (h59 : x1 ≠ 59) (hm : (59 : UInt8) ∈ t1) (hs : t1.length ≤ 1073741818) :
    Ev (fun k => incipitref04_Read.j0 k (B (38 :: x1 :: t1)) (((upto t1).length + 2 : Nat) : Int) false) (resE (bdy (x1 :: upto t1)) (((upto t1).length + 2 : Nat) : Int)) := by
  have hl := upto_len t1
  have h35 : ((x1.toNat : Int) = 35) ↔ x1 = 35 := u8_eq _ 35 (by omega)
  have hb1 : bt (B (38 :: x1 :: t1)) 1 = (x1.toNat : Int) := B_bt (38 :: x1 :: t1) 1 (by simp)
  have hz : (1 : Int) < ((B (38 :: x1 :: t1)).size : Int) := by rw [B_size]; simp only [List.length_cons]; omega
  have hz2 : (((upto t1).length + 2 : Nat) : Int) ≤ ((B (38 :: x1 :: t1)).size : Int) := by rw [B_size]; simp only [List.length_cons]; omega
  by_cases hx : x1 = 35
  · subst hx
    cases t1 with
    | nil => cases hm
    | cons y t2 =>
      by_cases hy59 : y = 59
      · have hu : upto (y :: t2) = [] := by rw [upto, if_pos hy59]
        have hj := j1_dec (y :: t2) (by omega)
        rw [hu] at hj ⊢
        rw [bdy_35]
        refine Ev.step (fun k => ?_) hj
        simp only [incipitref04_Read.j0]
        rw [if_neg (by simp), if_pos hz, hb1, if_pos (h35.2 rfl), if_neg (by decide)]
      · have hu : upto (y :: t2) = y :: upto t2 := by rw [upto, if_neg hy59]
        have hb2 : bt (B (38 :: 35 :: y :: t2)) 2 = (y.toNat : Int) := B_bt (38 :: 35 :: y :: t2) 2 (by simp)
        have h120 : ((y.toNat : Int) = 120) ↔ y = 120 := u8_eq _ 120 (by omega)
        have h88 : ((y.toNat : Int) = 88) ↔ y = 88 := u8_eq _ 88 (by omega)
        have hz3 : (2 : Int) < ((B (38 :: 35 :: y :: t2)).size : Int) := by rw [B_size]; simp only [List.length_cons]; omega
        have hl2 := upto_len t2
        rw [List.length_cons] at hs
        by_cases hxx : (y.toNat ||| 32) = 120
        · have hj := j1_hex y t2 (by omega)
          rw [hu, bdy_two, if_pos hxx, List.length_cons]
          refine Ev.step (fun k => ?_) hj
          simp only [incipitref04_Read.j0]
          rw [if_neg (by simp), if_pos hz, hb1, if_pos (h35.2 rfl), if_pos (by omega), if_pos hz3, hb2]
          rcases (or_x y).1 hxx with rfl | rfl
          · rw [if_pos (by decide)]
          · rw [if_neg (by decide)]
            rfl
        · have hj := j1_dec (y :: t2) (by rw [List.length_cons]; omega)
          rw [hu] at hj ⊢
          rw [bdy_two, if_neg hxx]
          refine Ev.step (fun k => ?_) hj
          have hn := fun e => hxx ((or_x y).2 e)
          simp only [incipitref04_Read.j0]
          rw [if_neg (by simp), if_pos hz, hb1, if_pos (h35.2 rfl), if_pos (by rw [List.length_cons]; omega), if_pos hz3, hb2, if_neg (fun e => hn (.inl (h120.1 e))), show ((y.toNat : Int) == 88) = false from beq_eq_false_iff_ne.2 (fun e => hn (.inr (h88.1 e)))]
  · rw [bdy_no x1 _ hx]
    have hr := rnamed_ev (x1 :: upto t1)
    refine Ev.step (f := fun k => (incipitref04_Named.f k (B (x1 :: upto t1))).bind fun bt121 => (if bt121.2 = true then (some (bt121.1, wrap64 ((((upto t1).length + 2 : Nat) : Int) + 1))) else (some ((⟨#[]⟩ : ByteArray), 0)))) (fun k => ?_) (Ev.bind hr ?_)
    · simp only [incipitref04_Read.j0]
      rw [if_neg (by simp), if_pos hz, hb1, if_neg (fun e => hx (h35.1 e)), if_pos (by omega), if_pos hz2, B_extract, Int.toNat_natCast]
      show (incipitref04_Named.f k (B (List.take ((upto t1).length + 1) (x1 :: t1)))).bind _ = _
      rw [List.take_succ_cons, upto_take]
    · unfold resE
      rw [w64 (by omega) (by omega)]
      by_cases hc : (nmd (x1 :: upto t1)).2 = true
      · rw [if_pos hc]
        exact Ev.congr (fun k => by rw [if_pos hc]) (Ev.now _)
      · rw [if_neg hc]
        exact Ev.congr (fun k => by rw [if_neg hc]) (Ev.now _)
theorem rread_ev (s : List UInt8) (hs : s.length ≤ 1048576) : Ev (fun k => incipitref04_Read.f k (B s)) (rdE s) := by
  unfold incipitref04_Read.f
  refine Ev.bind (end_ev s (by omega)) ?_
  have hno : ∀ e : Int, e < 2 → rdE s = (⟨#[]⟩, 0) → Ev (fun k => if e < 2 then (incipitref04_Read.j0 k (B s) e true) else (if 0 < ((B s).size : Int) then (incipitref04_Read.j0 k (B s) e ((bt (B s) 0) != 38)) else (none))) (rdE s) := by
    intro e he hr
    rw [hr]
    exact Ev.congr (fun k => by rw [if_pos he]) (rd_no (B s) e)
  cases s with
  | nil => exact hno _ (by decide) rfl
  | cons x t =>
    rw [List.length_cons] at hs
    have hl := upto_len t
    by_cases hx59 : x = 59
    · subst hx59
      rw [if_pos (by simp), upto, if_pos rfl]
      exact hno _ (by decide) rfl
    · have hm : (59 : UInt8) ∈ x :: t ↔ (59 : UInt8) ∈ t := by rw [List.mem_cons]; exact ⟨fun h' => h'.resolve_left (fun e => hx59 e.symm), .inr⟩
      by_cases h : (59 : UInt8) ∈ t
      · rw [if_pos (hm.2 h), upto, if_neg hx59, List.length_cons]
        cases t with
        | nil => cases h
        | cons x1 t1 =>
          by_cases hx1 : x1 = 59
          · have hu : upto (x1 :: t1) = [] := by rw [upto, if_pos hx1]
            refine hno _ (by rw [hu]; decide) ?_
            rw [rdE, hu]
            have hb : bdy [] = (⟨#[]⟩, false) := nmd_nil
            rw [hb, if_neg (show ¬ (false = true) by decide)]
            split
            · first | rfl | (split <;> rfl)
            · rfl
          · have hu : upto (x1 :: t1) = x1 :: upto t1 := by rw [upto, if_neg hx1]
            have hm1 : (59 : UInt8) ∈ t1 := by rcases List.mem_cons.1 h with e | e; exact absurd e.symm hx1; exact e
            have hb0 : bt (B (x :: x1 :: t1)) 0 = (x.toNat : Int) := B_bt (x :: x1 :: t1) 0 (by simp)
            have h38 : ((x.toNat : Int) = 38) ↔ x = 38 := u8_eq _ 38 (by omega)
            rw [hu, List.length_cons]
            by_cases hx : x = 38
            · subst hx
              have hj := j0_ev x1 t1 hx1 hm1 (by rw [List.length_cons] at hs; omega)
              rw [rdE, if_pos rfl, if_pos h, hu]
              have he : (if (bdy (x1 :: upto t1)).2 = true then ((bdy (x1 :: upto t1)).1, ((x1 :: upto t1).length : Int) + 2) else ((⟨#[]⟩ : ByteArray), (0 : Int))) = resE (bdy (x1 :: upto t1)) (((upto t1).length + 2 : Nat) : Int) := by
                unfold resE
                split
                · rw [List.length_cons]
                  congr 1
                  try omega
                · rfl
              rw [he]
              refine Ev.congr (fun k => ?_) hj
              rw [if_neg (by omega), if_pos (by rw [B_size]; simp only [List.length_cons]; omega), hb0]
              rfl
            · rw [show rdE (x :: x1 :: t1) = (⟨#[]⟩, 0) from by rw [rdE, if_neg hx]]
              refine Ev.congr (fun k => ?_) (rd_no (B (x :: x1 :: t1)) (((upto t1).length + 1 + 1 : Nat) : Int))
              rw [if_neg (by omega), if_pos (by rw [B_size]; simp only [List.length_cons]; omega), hb0, show ((x.toNat : Int) != 38) = true from bne_iff_ne.2 (fun e => hx (h38.1 e))]
      · rw [if_neg (fun e => h (hm.1 e))]
        refine hno _ (by decide) ?_
        rw [rdE, if_neg h]
        split <;> rfl
end Go.Proofs.YtjobchgncdgfaaaGreatDoor.Pure

namespace Go.Proofs.YtjobchgncdgfaaaGreatDoor.Pure
open Go.RowKit Go.Proofs.YtjobchgncdgfaaaGreatDoorW.PrintWords Go.Proofs.YtjobchgncdgfaaaGreatDoorW.PrintMore Go.Proofs.YtjobchgncdgfaaaGreatDoor.Pl Go.Proofs.YtjobchgncdgfaaaGreatDoor.PA

theorem rsign_eq (x : UInt8) : incipitref05_Sign.f (x.toNat : Int) = some (sgn x) := by
  have h : ∀ y : Fin 256, incipitref05_Sign.f (((UInt8.ofNat y.val).toNat : Nat) : Int) = some (sgn (UInt8.ofNat y.val)) := by decide +kernel
  have := h ⟨x.toNat, x.toNat_lt⟩
  rwa [show UInt8.ofNat x.toNat = x from UInt8.ofNat_toNat] at this
theorem runesc_l : ∀ (n : Nat) (l acc : List UInt8), l.length ≤ n → acc.length + 4 * l.length ≤ 100000 → Ev (fun k => incipitref05_Unescape.l0 k (B l) (B acc)) (B (acc ++ une l)) := by
  intro n
  induction n with
  | zero =>
    intro l acc hl _
    obtain rfl : l = [] := List.length_eq_zero_iff.1 (by omega)
    refine Ev.step (f := fun _ => some (B (acc ++ une []))) (fun k => ?_) (Ev.now _)
    simp only [incipitref05_Unescape.l0]
    rw [if_neg (by rw [B_size]; simp), une_nil, List.append_nil]
  | succ n ih =>
    intro l acc hl hb
    cases l with
    | nil =>
      refine Ev.step (f := fun _ => some (B (acc ++ une []))) (fun k => ?_) (Ev.now _)
      simp only [incipitref05_Unescape.l0]
      rw [if_neg (by rw [B_size]; simp), une_nil, List.append_nil]
    | cons x t =>
      rw [List.length_cons] at hl hb
      have hsz : (B (x :: t)).size = t.length + 1 := B_size _
      have hasz : (B acc).size = acc.length := B_size _
      have b0 : bt (B (x :: t)) 0 = (x.toNat : Int) := B_bt (x :: t) 0 (by simp)
      have e92 : ((x.toNat : Int) = 92) ↔ x = 92 := u8_eq _ 92 (by decide)
      have go : ¬ (x = 92 ∧ ∃ y ∈ t.head?, sgn y = true) → Ev (fun k => incipitref05_Unescape.j1 k (B (x :: t)) (B acc) false) (B (acc ++ une (x :: t))) := by
        intro hneg
        have hu := une_cons x t
        have hst := stp_cons x t
        rw [if_neg hneg] at hst
        have hl4 := stp_len (x :: t)
        have hp1 := stp_pos (x :: t)
        have hle := stp_le x t
        rw [List.length_cons] at hle
        refine Ev.step (f := fun k => (incipitref04_Read.f k (B (x :: t))).bind _) (fun k => by simp only [incipitref05_Unescape.j1]; rw [if_neg (by simp)]) (Ev.bind (rread_ev (x :: t) (by rw [List.length_cons]; omega)) ?_)
        by_cases hk : 0 < (rdE (x :: t)).2
        · rw [if_pos hk] at hst
          obtain ⟨kn, hkn⟩ := Int.eq_ofNat_of_zero_le (show 0 ≤ (rdE (x :: t)).2 by omega)
          obtain ⟨Q, hQ⟩ : ∃ Q, (rdE (x :: t)).1 = Q := ⟨_, rfl⟩
          rw [hkn, hQ, Int.toNat_natCast] at hst
          rw [hst] at hu hl4 hp1 hle
          simp only at hu hl4 hp1 hle
          have hQs : Q.data.toList.length = Q.size := Array.length_toList
          have h3 := ih ((x :: t).drop kn) (acc ++ Q.data.toList) (by rw [List.length_drop, List.length_cons]; omega) (by rw [List.length_append, List.length_drop, List.length_cons]; omega)
          rw [hu, ← List.append_assoc]
          refine Ev.congr (fun k => ?_) h3
          rw [hkn, hQ, if_pos (by omega), if_pos (by omega), if_pos (by omega), if_pos (by rw [hsz]; omega), Int.toNat_natCast, B_from (x :: t) kn _ (B_size _)]
          rw [show B acc ++ Q = B (acc ++ Q.data.toList) by rw [← B_append, B_eta]]
        · rw [if_neg hk] at hst
          rw [hst] at hu
          simp only at hu
          have h3 := ih t (acc ++ [x]) (by omega) (by rw [List.length_append]; simp; omega)
          rw [hu, ← List.append_assoc]
          refine Ev.congr (fun k => ?_) h3
          rw [if_neg (by omega), if_pos (by omega), if_pos (by rw [hsz]; omega), B_to, B_from (x :: t) 1 _ (B_size _)]
          have e1 : (x :: t).take 1 = [x] := rfl
          have e2 : (x :: t).drop 1 = t := rfl
          rw [e1, e2, if_pos (by rw [hasz, B_size]; simp; omega), B_append]
      by_cases h92 : x = 92
      · cases t with
        | nil =>
          refine Ev.step (fun k => ?_) (go (fun e => by obtain ⟨_, y, hy, _⟩ := e; cases hy))
          simp only [incipitref05_Unescape.l0]
          rw [if_pos (by rw [hsz]; simp), if_pos (by rw [hsz]; simp), b0, if_pos (e92.2 h92), if_neg (by rw [hsz]; simp)]
        | cons y u =>
          rw [List.length_cons] at hl hb hsz
          have b1 : bt (B (x :: y :: u)) 1 = (y.toNat : Int) := B_bt (x :: y :: u) 1 (by simp)
          have hstart : ∀ k, incipitref05_Unescape.l0 (k + 1) (B (x :: y :: u)) (B acc) = incipitref05_Unescape.j1 k (B (x :: y :: u)) (B acc) (sgn y) := by
            intro k
            simp only [incipitref05_Unescape.l0]
            rw [if_pos (by rw [hsz]; omega), if_pos (by rw [hsz]; omega), b0, if_pos (e92.2 h92), if_pos (by rw [hsz]; omega), if_pos (by rw [hsz]; omega), b1, rsign_eq, Option.bind_some]
          cases hsg : sgn y with
          | true =>
            have h3 := ih u (acc ++ [y]) (by omega) (by rw [List.length_append]; simp; omega)
            rw [h92, une_sgn y u hsg]
            refine Ev.step (f := fun k => incipitref05_Unescape.j1 k (B (92 :: y :: u)) (B acc) true) (fun k => by have := hstart k; rw [hsg, h92] at this; exact this) (Ev.step (fun k => ?_) (by rw [show acc ++ y :: une u = (acc ++ [y]) ++ une u by simp]; exact h3))
            simp only [incipitref05_Unescape.j1]
            rw [if_pos trivial, if_pos (by omega), if_pos (by rw [B_size]; simp; omega), B_extract, B_from (92 :: y :: u) 2 _ (B_size _)]
            have e1 : List.take (2 - 1) (List.drop 1 ((92 : UInt8) :: y :: u)) = [y] := rfl
            have e2 : List.drop 2 ((92 : UInt8) :: y :: u) = u := rfl
            rw [e1, e2, if_pos (by rw [hasz, B_size]; simp; omega), B_append]
          | false =>
            refine Ev.step (fun k => ?_) (go (fun e => by obtain ⟨_, z, hz, hs⟩ := e; obtain rfl := Option.some.inj hz; rw [hsg] at hs; cases hs))
            rw [hstart k, hsg]
      · refine Ev.step (fun k => ?_) (go (fun e => h92 e.1))
        simp only [incipitref05_Unescape.l0]
        rw [if_pos (by rw [hsz]; omega), if_pos (by rw [hsz]; omega), b0, if_neg (fun e => h92 (e92.1 e))]
theorem runesc_ev (s : List UInt8) (hs : s.length ≤ 25000) : Ev (fun k => incipitref05_Unescape.f k (B s)) (B (une s)) := runesc_l s.length s [] (Nat.le_refl _) (by simp; omega)
end Go.Proofs.YtjobchgncdgfaaaGreatDoor.Pure

namespace Go.Proofs.YtjobchgncdgfaaaGreatDoor.PA
open Go.RowKit Go.Proofs.YtjobchgncdgfaaaGreatDoorW.PrintWords Go.Proofs.YtjobchgncdgfaaaGreatDoorW.PrintLast Go.Proofs.YtjobchgncdgfaaaGreatDoorW.PrintMore
attribute [local go_sem] max2_int min2_int max_two min_two max_three min_three max_four min_four   -- for this text's walks alone
set_option linter.unusedVariables false
set_option linter.unusedSimpArgs false

/-! ### incipitref09_Dest: function 13 -/
mutual
def incipitref09_Dest.j0 : Nat → ByteArray → Bool → Option (ByteArray × Int × Bool)
  | 0, _, _ => none
  | k + 1, x0, x14 => if x14 = true then ((incipitref09_angled.f k x0).bind fun bt153 => (some (bt153.1, bt153.2.1, bt153.2.2))) else ((incipitref09_marks.f k x0).bind fun t156 => (incipitref09_Dest.l0 k x0 t156 0 0))
def incipitref09_Dest.l0 : Nat → ByteArray → List Bool → Int → Int → Option (ByteArray × Int × Bool)
  | 0, _, _, _, _ => none
  | k + 1, x0, x5, x6, x7 => if x7 < (x0.size : Int) then (if 0 ≤ x7 then (if (bt x0 x7) > 32 then (incipitref09_Dest.j2 k x0 x5 x6 x7 ((bt x0 x7) != 127)) else (incipitref09_Dest.j2 k x0 x5 x6 x7 false)) else (none)) else (incipitref09_Dest.j2 k x0 x5 x6 x7 false)
def incipitref09_Dest.j2 : Nat → ByteArray → List Bool → Int → Int → Bool → Option (ByteArray × Int × Bool)
  | 0, _, _, _, _, _ => none
  | k + 1, x0, x5, x6, x7, x37 => if x37 = true then (if 0 ≤ x7 then (if x7 < (x0.size : Int) then (if (bt x0 x7) = 40 then (if x7 < (x5.length : Int) then (incipitref09_Dest.j3 k x0 x5 x6 x7 (!(rdOf false x5 x7))) else (none)) else (incipitref09_Dest.j3 k x0 x5 x6 x7 false)) else (none)) else (none)) else (if x7 = 0 then (some ((⟨#[]⟩ : ByteArray), 0, false)) else (if x6 > 0 then (some ((⟨#[]⟩ : ByteArray), 0, false)) else (if 0 ≤ x7 then (if x7 ≤ (x0.size : Int) then ((incipitref05_Unescape.f k (x0.extract 0 (x7 : Int).toNat)).bind fun t159 => (some (t159, x7, true))) else (none)) else (none))))
def incipitref09_Dest.j3 : Nat → ByteArray → List Bool → Int → Int → Bool → Option (ByteArray × Int × Bool)
  | 0, _, _, _, _, _ => none
  | k + 1, x0, x5, x6, x7, x48 => if x48 = true then (if (wrap64 (x6 + 1)) > 32 then (some ((⟨#[]⟩ : ByteArray), 0, false)) else (incipitref09_Dest.j4 k x0 x5 (wrap64 (x6 + 1)) x7)) else (incipitref09_Dest.j4 k x0 x5 x6 x7)
def incipitref09_Dest.j4 : Nat → ByteArray → List Bool → Int → Int → Option (ByteArray × Int × Bool)
  | 0, _, _, _, _ => none
  | k + 1, x0, x5, x6, x7 => if 0 ≤ x7 then (if x7 < (x0.size : Int) then (if (bt x0 x7) = 41 then (if x7 < (x5.length : Int) then (incipitref09_Dest.j5 k x0 x5 x6 x7 (!(rdOf false x5 x7))) else (none)) else (incipitref09_Dest.j5 k x0 x5 x6 x7 false)) else (none)) else (none)
def incipitref09_Dest.j5 : Nat → ByteArray → List Bool → Int → Int → Bool → Option (ByteArray × Int × Bool)
  | 0, _, _, _, _, _ => none
  | k + 1, x0, x5, x6, x7, x63 => if x63 = true then (if x6 = 0 then (if x7 = 0 then (some ((⟨#[]⟩ : ByteArray), 0, false)) else (if x6 > 0 then (some ((⟨#[]⟩ : ByteArray), 0, false)) else (if 0 ≤ x7 then (if x7 ≤ (x0.size : Int) then ((incipitref05_Unescape.f k (x0.extract 0 (x7 : Int).toNat)).bind fun t162 => (some (t162, x7, true))) else (none)) else (none)))) else (incipitref09_Dest.l0 k x0 x5 (wrap64 (x6 - 1)) (wrap64 (x7 + 1)))) else (incipitref09_Dest.l0 k x0 x5 x6 (wrap64 (x7 + 1)))
end
def incipitref09_Dest.f (k : Nat) (a0 : ByteArray) : Option (ByteArray × Int × Bool) := if a0.toList = ([] : List UInt8) then (incipitref09_Dest.j0 k a0 false) else (if 0 < (a0.size : Int) then (incipitref09_Dest.j0 k a0 ((bt a0 0) == 60)) else (none))
set_option maxHeartbeats 8000000 in
set_option maxRecDepth 100000 in
theorem incipitref09_Dest.calls (k : Nat) (a0 : ByteArray) (r1 : ByteArray) (r2 : Int) (r3 : Bool) (w : World) (h : incipitref09_Dest.f k a0 = some (r1, r2, r3)) :
    Calls Tryz.prog 13 #[.string a0] w fun e w' => e = .returned (.tuple #[.string r1, .int .i64 r2, .bool r3]) ∧ Below w.heap.size w w' := by
  have HB := Aside0.mk (Below.refl w.heap.size w)
  have H : (if a0.toList = ([] : List UInt8) then (incipitref09_Dest.j0 k a0 false) else (if 0 < (a0.size : Int) then (incipitref09_Dest.j0 k a0 ((bt a0 0) == 60)) else (none))) = some (r1, r2, r3) := h
  clear h
  have HC2 := Aside0.mk H
  clear H
  go_enter Tryz.func13, Tryz.ntmps13
  go_upto_region 1 with (fail)
  go_cut [14] (fun v14 wc => ∃ (kq : Nat) (x14_1 : Bool), v14 = .bool x14_1 ∧ Aside0 (incipitref09_Dest.j0 kq a0 x14_1 = some (r1, r2, r3)) ∧ Aside0 (kq ≤ k) ∧ Aside0 (Below w.heap.size w wc))
  case first =>
    have H := HC2.out
    clear HC2
    by_cases c3 : a0.toList = ([] : List UInt8)
    · rw [if_pos c3] at H
      have c3b0 : (a0.toList == ([] : List UInt8)) = true := beq_iff_eq.mpr c3
      have c3b1 : (a0.toList != ([] : List UInt8)) = false := bne_eq_false_iff_eq.mpr c3
      clear c3
      (first | rw [c3b0] | (simp only [i64_w, i32_w]; rw [c3b0]) | skip)
      have H' := Aside0.mk H
      clear H
      go_wp2
      go_meet
      case rel => exact ⟨_, (false), (by first | rfl | (simp; done) | (simp [*]; done)), H', ⟨by first | omega | exact Nat.le_refl _⟩, ⟨by repeat (first | (with_reducible first | exact HB.out | apply below_alloc | apply pw_below_drewN | apply below_drew1) | exact HB.out)⟩⟩
    · rw [if_neg c3] at H
      have c3b0 : (a0.toList == ([] : List UInt8)) = false := beq_eq_false_iff_ne.mpr c3
      have c3b1 : (a0.toList != ([] : List UInt8)) = true := bne_iff_ne.mpr c3
      (first | rw [c3b0] | (simp only [i64_w, i32_w]; rw [c3b0]) | skip)
      by_cases c4 : 0 < (a0.size : Int)
      · rw [if_pos c4] at H
        have c4b0 : decide (0 < (a0.size : Int)) = true := decide_eq_true c4
        have c4b1 : decide (0 < a0.size) = true := decide_eq_true (by omega)
        clear c4
        have H' := Aside0.mk H
        clear H
        have p5 : 0 ≤ (0 : Int) := (by omega)
        have q5 : 0 < a0.size := (by have : (0 : Int) < (a0.size : Int) := of_decide_eq_true (by first | (with_reducible assumption) | assumption); omega)
        have hx5 : ∀ h : 0 < a0.size, ((a0[0]'h).toNat : Int) = bt a0 0 := bt_at a0 0
        clear p5
        have qi5 : (0 < (a0.size : Int)) = True := eq_true (of_decide_eq_true (by first | (with_reducible assumption) | assumption))
        replace q5 := eq_true q5
        go_wp2
        go_meet
        case rel => exact ⟨_, (((bt a0 0) == 60)), (by first | rfl | (simp; done) | (simp [*]; done)), H', ⟨by first | omega | exact Nat.le_refl _⟩, ⟨by repeat (first | (with_reducible first | exact HB.out | apply below_alloc | apply pw_below_drewN | apply below_drew1) | exact HB.out)⟩⟩
      · rw [if_neg c4] at H
        exact absurd H (by simp)
  case rest =>
    clear HC2
    try clear c1
    try clear p2
    try clear c3
    try clear c3b0
    try clear c3b1
    try clear c4
    try clear c4b0
    try clear c4b1
    try clear p5
    try clear q5
    try clear hx5
    try clear qi5
    try clear p5
    try clear q5
    obtain ⟨kq, x14_1, rfl, HA, HJ1, HB⟩ := hcut
    cases kq with
    | zero => exact absurd HA.out (by simp [incipitref09_Dest.j0])
    | succ kj1 =>
      have H := HA.out
      clear HA
      simp only [incipitref09_Dest.j0] at H
      by_cases c6 : x14_1 = true
      · subst c6
        have H1 : ((incipitref09_angled.f kj1 a0).bind fun bt153 => (some (bt153.1, bt153.2.1, bt153.2.2))) = some (r1, r2, r3) := by rw [if_pos rfl] at H; exact H
        clear H
        have H := H1
        clear H1
        replace H := Option.bind_eq_some_iff.mp H
        obtain ⟨⟨t153, t154, t155⟩, A70, H⟩ := H
        replace H : (some (t153, t154, t155)) = some (r1, r2, r3) := H
        have A7 := Aside0.mk A70
        clear A70
        simp only [Option.some.injEq, Prod.mk.injEq] at H
        obtain ⟨rfl, rfl, rfl⟩ := H
        go_wp2_with (first | ((with_reducible refine gate_callee (f := 27) rfl ?_); refine goesL_ (some 16) rfl rfl Tryz.func27 (by kernel_rfl) rfl #[.string a0] rfl (by (try simp only [List.map_toArray, List.map_cons, List.map_nil]); first | done | rfl | (simp only [List.length_drop, List.length_take]; rfl)) ?_; (with_reducible refine (incipitref09_angled.calls kj1 a0 t153 t154 t155 _ A7.out).mono ?_); rintro e w8 ⟨rfl, hb⟩; refine ⟨_, rfl, ?_⟩; have n0_ := Aside0.mk (below_step (by repeat (first | (with_reducible first | exact HB.out | apply below_alloc | apply pw_below_drewN | apply below_drew1) | exact HB.out)) hb); clear HB; have HB := n0_; clear n0_; (try clear hb); (try clear hb2); (try clear hk); (try clear hi)))
        go_ret3
        exact ⟨by first | rfl | exact retNe _ | (simp [errW_none, errW_some] <;> rfl) | (simp [*, errW_none, errW_some] <;> rfl), by repeat (first | (with_reducible first | exact HB.out | apply below_alloc | apply pw_below_drewN | apply below_drew1) | exact HB.out)⟩
      · replace c6 := Bool.eq_false_iff.mpr c6
        subst c6
        have H1 : ((incipitref09_marks.f kj1 a0).bind fun t156 => (incipitref09_Dest.l0 kj1 a0 t156 0 0)) = some (r1, r2, r3) := by rw [if_neg (show ¬ (false = true) by decide)] at H; exact H
        clear H
        have H := H1
        clear H1
        replace H := Option.bind_eq_some_iff.mp H
        obtain ⟨t156, A90, H⟩ := H
        replace H : (incipitref09_Dest.l0 kj1 a0 t156 0 0) = some (r1, r2, r3) := H
        have A9 := Aside0.mk A90
        clear A90
        have H' := Aside0.mk H
        clear H
        go_wp2_with (first | ((with_reducible refine gate_callee (f := 23) rfl ?_); refine goesL_ (some 21) rfl rfl Tryz.func23 (by kernel_rfl) rfl #[.string a0] rfl (by (try simp only [List.map_toArray, List.map_cons, List.map_nil]); first | done | rfl | (simp only [List.length_drop, List.length_take]; rfl)) ?_; (with_reducible refine (incipitref09_marks.calls kj1 a0 t156 _ A9.out).mono ?_); rintro e w10 ⟨v157, rfl, ho0, hb⟩; refine ⟨_, rfl, ?_⟩; have n0_ := Aside0.mk (Kd.R_lower ho0 (below_size (by repeat (first | (with_reducible first | exact HB.out | apply below_alloc | apply pw_below_drewN | apply below_drew1) | exact HB.out)))); have n1_ := Aside0.mk (below_step (by repeat (first | (with_reducible first | exact HB.out | apply below_alloc | apply pw_below_drewN | apply below_drew1) | exact HB.out)) hb); clear HB; have HO158 := n0_; have HB := n1_; clear n0_ n1_; (try clear hb); (try clear hb2); (try clear hk); (try clear hi); (try clear ho0)))
        go_loopg [6, 7] kj1 (fun kq v6 v7 w' => ∃ (x6_2 : Int) (x7_2 : Int), v6 = .int .i64 x6_2 ∧ v7 = .int .i64 x7_2 ∧ Aside0 (incipitref09_Dest.l0 kq a0 t156 x6_2 x7_2 = some (r1, r2, r3)) ∧ Aside0 (kq ≤ kj1) ∧ Aside0 (Kd.R Kd.bool 4 w' w.heap.size (fun _ => True) v157 t156) ∧ Aside0 (Below w.heap.size w w'))
        case atStart => exact ⟨(0), (0), (by first | rfl | (simp; done) | (simp [*]; done)), (by first | rfl | (simp; done) | (simp [*]; done)), H', ⟨Nat.le_refl _⟩, ⟨by (with_reducible repeat (first | apply Kd.R_alloc | apply Kd.R_drewN | apply Kd.R_drew)); exact HO158.out⟩, ⟨by repeat (first | (with_reducible first | exact HB.out | apply below_alloc | apply pw_below_drewN | apply below_drew1) | exact HB.out)⟩⟩
        case round =>
          clear H'
          try clear c1
          try clear c2
          try clear p2
          try clear c3
          try clear c3b0
          try clear c3b1
          try clear c4
          try clear c4b0
          try clear c4b1
          try clear p5
          try clear q5
          try clear hx5
          try clear qi5
          try clear c6
          try clear p2
          try clear p5
          try clear q5
          obtain ⟨x6_2, x7_2, rfl, rfl, HA, HK2, HO_5, HB⟩ := hrel
          cases gk with
          | zero => exact absurd HA.out (by simp [incipitref09_Dest.l0])
          | succ k2 =>
            have H := HA.out
            clear HA
            simp only [incipitref09_Dest.l0] at H
            have HC11 := Aside0.mk H
            clear H
            go_upto_region 6 with (fail)
            go_cut [37] (fun v37 wc => ∃ (kq : Nat) (x37_10 : Bool), v37 = .bool x37_10 ∧ Aside0 (incipitref09_Dest.j2 kq a0 t156 x6_2 x7_2 x37_10 = some (r1, r2, r3)) ∧ Aside0 (kq ≤ k2) ∧ Aside0 (Kd.R Kd.bool 4 wc w.heap.size (fun _ => True) v157 t156) ∧ Aside0 (Below w.heap.size w wc))
            case first =>
              have H := HC11.out
              clear HC11
              by_cases c12 : x7_2 < (a0.size : Int)
              · rw [if_pos c12] at H
                have c12b0 : decide (x7_2 < (a0.size : Int)) = true := decide_eq_true c12
                clear c12
                (first | rw [c12b0] | (simp only [i64_w, i32_w]; rw [c12b0]) | skip)
                by_cases c13 : 0 ≤ x7_2
                · rw [if_pos c13] at H
                  have c13b0 : decide (0 ≤ x7_2) = true := decide_eq_true c13
                  clear c13
                  by_cases c15 : (bt a0 x7_2) > 32
                  · rw [if_pos c15] at H
                    have c15b0 : decide (32 < (bt a0 x7_2)) = true := decide_eq_true c15
                    clear c15
                    have H' := Aside0.mk H
                    clear H
                    have p14 : 0 ≤ (x7_2 : Int) := of_decide_eq_true (by first | (with_reducible assumption) | assumption)
                    have q14 : x7_2 < (a0.size : Int) := of_decide_eq_true (by first | (with_reducible assumption) | assumption)
                    have hx14 := bt_at a0 x7_2
                    replace p14 := eq_true p14
                    replace q14 := eq_true q14
                    have p16 : 0 ≤ (x7_2 : Int) := of_decide_eq_true (by first | (with_reducible assumption) | assumption)
                    have q16 : x7_2 < (a0.size : Int) := of_decide_eq_true (by first | (with_reducible assumption) | assumption)
                    have hx16 := bt_at a0 x7_2
                    replace p16 := eq_true p16
                    replace q16 := eq_true q16
                    go_wp2
                    go_meet
                    case rel => exact ⟨_, (((bt a0 x7_2) != 127)), (by first | rfl | (simp; done) | (simp [*]; done)), H', ⟨by have := HJ1.out; have := HK2.out; first | omega | exact Nat.le_refl _⟩, ⟨by (with_reducible repeat (first | apply Kd.R_alloc | apply Kd.R_drewN | apply Kd.R_drew)); exact HO_5.out⟩, ⟨by repeat (first | (with_reducible first | exact HB.out | apply below_alloc | apply pw_below_drewN | apply below_drew1) | exact HB.out)⟩⟩
                  · rw [if_neg c15] at H
                    have c15b0 : decide (32 < (bt a0 x7_2)) = false := decide_eq_false c15
                    clear c15
                    have H' := Aside0.mk H
                    clear H
                    have p14 : 0 ≤ (x7_2 : Int) := of_decide_eq_true (by first | (with_reducible assumption) | assumption)
                    have q14 : x7_2 < (a0.size : Int) := of_decide_eq_true (by first | (with_reducible assumption) | assumption)
                    have hx14 := bt_at a0 x7_2
                    replace p14 := eq_true p14
                    replace q14 := eq_true q14
                    go_wp2
                    go_meet
                    case rel => exact ⟨_, (false), (by first | rfl | (simp; done) | (simp [*]; done)), H', ⟨by have := HJ1.out; have := HK2.out; first | omega | exact Nat.le_refl _⟩, ⟨by (with_reducible repeat (first | apply Kd.R_alloc | apply Kd.R_drewN | apply Kd.R_drew)); exact HO_5.out⟩, ⟨by repeat (first | (with_reducible first | exact HB.out | apply below_alloc | apply pw_below_drewN | apply below_drew1) | exact HB.out)⟩⟩
                · rw [if_neg c13] at H
                  exact absurd H (by simp)
              · rw [if_neg c12] at H
                have c12b0 : decide (x7_2 < (a0.size : Int)) = false := decide_eq_false c12
                clear c12
                (first | rw [c12b0] | (simp only [i64_w, i32_w]; rw [c12b0]) | skip)
                have H' := Aside0.mk H
                clear H
                go_wp2
                go_meet
                case rel => exact ⟨_, (false), (by first | rfl | (simp; done) | (simp [*]; done)), H', ⟨by have := HJ1.out; have := HK2.out; first | omega | exact Nat.le_refl _⟩, ⟨by (with_reducible repeat (first | apply Kd.R_alloc | apply Kd.R_drewN | apply Kd.R_drew)); exact HO_5.out⟩, ⟨by repeat (first | (with_reducible first | exact HB.out | apply below_alloc | apply pw_below_drewN | apply below_drew1) | exact HB.out)⟩⟩
            case rest =>
              clear HC11
              try clear c1
              try clear p1
              try clear q1
              try clear hx1
              try clear c2
              try clear p2
              try clear c3
              try clear c3b0
              try clear c3b1
              try clear c4
              try clear c4b0
              try clear c4b1
              try clear p5
              try clear q5
              try clear hx5
              try clear qi5
              try clear c6
              try clear c12
              try clear c12b0
              try clear c13
              try clear c13b0
              try clear p14
              try clear q14
              try clear hx14
              try clear c15
              try clear c15b0
              try clear p16
              try clear q16
              try clear hx16
              try clear p14
              try clear p16
              try clear p2
              try clear p5
              try clear q14
              try clear q16
              try clear q5
              obtain ⟨kq, x37_10, rfl, HA, HJ10, HO_5, HB⟩ := hcut
              cases kq with
              | zero => exact absurd HA.out (by simp [incipitref09_Dest.j2])
              | succ kj10 =>
                have H := HA.out
                clear HA
                simp only [incipitref09_Dest.j2] at H
                by_cases c17 : x37_10 = true
                · subst c17
                  have H1 : (if 0 ≤ x7_2 then (if x7_2 < (a0.size : Int) then (if (bt a0 x7_2) = 40 then (if x7_2 < (t156.length : Int) then (incipitref09_Dest.j3 kj10 a0 t156 x6_2 x7_2 (!(rdOf false t156 x7_2))) else (none)) else (incipitref09_Dest.j3 kj10 a0 t156 x6_2 x7_2 false)) else (none)) else (none)) = some (r1, r2, r3) := by rw [if_pos rfl] at H; exact H
                  clear H
                  have H := H1
                  clear H1
                  have HC18 := Aside0.mk H
                  clear H
                  go_upto_region 7 with (fail)
                  go_cut [48] (fun v48 wc => ∃ (kq : Nat) (x48_17 : Bool), v48 = .bool x48_17 ∧ Aside0 (incipitref09_Dest.j3 kq a0 t156 x6_2 x7_2 x48_17 = some (r1, r2, r3)) ∧ Aside0 (kq ≤ kj10) ∧ Aside0 (Kd.R Kd.bool 4 wc w.heap.size (fun _ => True) v157 t156) ∧ Aside0 (Below w.heap.size w wc))
                  case first =>
                    have H := HC18.out
                    clear HC18
                    by_cases c19 : 0 ≤ x7_2
                    · rw [if_pos c19] at H
                      have c19b0 : decide (0 ≤ x7_2) = true := decide_eq_true c19
                      clear c19
                      (first | rw [c19b0] | (simp only [i64_w, i32_w]; rw [c19b0]) | skip)
                      by_cases c20 : x7_2 < (a0.size : Int)
                      · rw [if_pos c20] at H
                        have c20b0 : decide (x7_2 < (a0.size : Int)) = true := decide_eq_true c20
                        clear c20
                        by_cases c22 : (bt a0 x7_2) = 40
                        · rw [if_pos c22] at H
                          have c22b0 : ((bt a0 x7_2) == 40) = true := beq_iff_eq.mpr c22
                          have c22b1 : ((bt a0 x7_2) != 40) = false := bne_eq_false_iff_eq.mpr c22
                          clear c22
                          by_cases c23 : x7_2 < (t156.length : Int)
                          · rw [if_pos c23] at H
                            have c23b0 : decide (x7_2 < (t156.length : Int)) = true := decide_eq_true c23
                            clear c23
                            have H' := Aside0.mk H
                            clear H
                            have p21 : 0 ≤ (x7_2 : Int) := of_decide_eq_true (by first | (with_reducible assumption) | assumption)
                            have q21 : x7_2 < (a0.size : Int) := of_decide_eq_true (by first | (with_reducible assumption) | assumption)
                            have hx21 := bt_at a0 x7_2
                            replace p21 := eq_true p21
                            replace q21 := eq_true q21
                            obtain ⟨Ao24, co24, eo24⟩ := Kd.R_slice HO_5.out
                            subst eo24
                            have p160 : 0 ≤ (x7_2 : Int) := of_decide_eq_true (by first | (with_reducible assumption) | assumption)
                            have q160 : x7_2 < (t156.length : Int) := of_decide_eq_true (by first | (with_reducible assumption) | assumption)
                            obtain ⟨ad160, e160, hx160_0⟩ := Kd.at_bool (Kd.R_reads' HO_5.out).2.2 x7_2 p160 q160
                            cases e160
                            replace p160 := eq_true p160
                            replace q160 := eq_true q160
                            go_wp2
                            go_meet
                            case rel => exact ⟨_, (!(rdOf false t156 x7_2)), (by first | rfl | (simp; done) | (simp [*]; done)), H', ⟨by have := HJ1.out; have := HK2.out; have := HJ10.out; first | omega | exact Nat.le_refl _⟩, ⟨by (with_reducible repeat (first | apply Kd.R_alloc | apply Kd.R_drewN | apply Kd.R_drew)); exact HO_5.out⟩, ⟨by repeat (first | (with_reducible first | exact HB.out | apply below_alloc | apply pw_below_drewN | apply below_drew1) | exact HB.out)⟩⟩
                          · rw [if_neg c23] at H
                            exact absurd H (by simp)
                        · rw [if_neg c22] at H
                          have c22b0 : ((bt a0 x7_2) == 40) = false := beq_eq_false_iff_ne.mpr c22
                          have c22b1 : ((bt a0 x7_2) != 40) = true := bne_iff_ne.mpr c22
                          have H' := Aside0.mk H
                          clear H
                          have p21 : 0 ≤ (x7_2 : Int) := of_decide_eq_true (by first | (with_reducible assumption) | assumption)
                          have q21 : x7_2 < (a0.size : Int) := of_decide_eq_true (by first | (with_reducible assumption) | assumption)
                          have hx21 := bt_at a0 x7_2
                          replace p21 := eq_true p21
                          replace q21 := eq_true q21
                          go_wp2
                          go_meet
                          case rel => exact ⟨_, (false), (by first | rfl | (simp; done) | (simp [*]; done)), H', ⟨by have := HJ1.out; have := HK2.out; have := HJ10.out; first | omega | exact Nat.le_refl _⟩, ⟨by (with_reducible repeat (first | apply Kd.R_alloc | apply Kd.R_drewN | apply Kd.R_drew)); exact HO_5.out⟩, ⟨by repeat (first | (with_reducible first | exact HB.out | apply below_alloc | apply pw_below_drewN | apply below_drew1) | exact HB.out)⟩⟩
                      · rw [if_neg c20] at H
                        exact absurd H (by simp)
                    · rw [if_neg c19] at H
                      exact absurd H (by simp)
                  case rest =>
                    clear HC18
                    try clear c1
                    try clear p1
                    try clear q1
                    try clear hx1
                    try clear c2
                    try clear p2
                    try clear q2
                    try clear hx2
                    try clear c3
                    try clear c3b0
                    try clear c3b1
                    try clear c4
                    try clear c4b0
                    try clear c4b1
                    try clear p5
                    try clear q5
                    try clear hx5
                    try clear qi5
                    try clear c6
                    try clear c12
                    try clear c12b0
                    try clear c13
                    try clear c13b0
                    try clear p14
                    try clear q14
                    try clear hx14
                    try clear c15
                    try clear c15b0
                    try clear p16
                    try clear q16
                    try clear hx16
                    try clear c17
                    try clear c19
                    try clear c19b0
                    try clear c20
                    try clear c20b0
                    try clear p21
                    try clear q21
                    try clear hx21
                    try clear c22
                    try clear c22b0
                    try clear c22b1
                    try clear c23
                    try clear c23b0
                    try clear hx160_0
                    try clear p1
                    try clear p14
                    try clear p16
                    try clear p160
                    try clear p2
                    try clear p21
                    try clear p5
                    try clear q1
                    try clear q14
                    try clear q16
                    try clear q160
                    try clear q21
                    try clear q5
                    obtain ⟨kq, x48_17, rfl, HA, HJ17, HO_5, HB⟩ := hcut
                    cases kq with
                    | zero => exact absurd HA.out (by simp [incipitref09_Dest.j3])
                    | succ kj17 =>
                      have H := HA.out
                      clear HA
                      simp only [incipitref09_Dest.j3] at H
                      have HC25 := Aside0.mk H
                      clear H
                      go_upto_if 48 with (fail)
                      go_cut [6] (fun v6 wc => ∃ (kq : Nat) (x6_24 : Int), v6 = .int .i64 x6_24 ∧ Aside0 (incipitref09_Dest.j4 kq a0 t156 x6_24 x7_2 = some (r1, r2, r3)) ∧ Aside0 (kq ≤ kj17) ∧ Aside0 (Kd.R Kd.bool 4 wc w.heap.size (fun _ => True) v157 t156) ∧ Aside0 (Below w.heap.size w wc))
                      case first =>
                        have H := HC25.out
                        clear HC25
                        by_cases c26 : x48_17 = true
                        · subst c26
                          have H1 : (if (wrap64 (x6_2 + 1)) > 32 then (some ((⟨#[]⟩ : ByteArray), 0, false)) else (incipitref09_Dest.j4 kj17 a0 t156 (wrap64 (x6_2 + 1)) x7_2)) = some (r1, r2, r3) := by rw [if_pos rfl] at H; exact H
                          clear H
                          have H := H1
                          clear H1
                          by_cases c27 : (wrap64 (x6_2 + 1)) > 32
                          · rw [if_pos c27] at H
                            have c27b0 : decide (32 < (wrap64 (x6_2 + 1))) = true := decide_eq_true c27
                            clear c27
                            (first | rw [c27b0] | (simp only [i64_w, i32_w]; rw [c27b0]) | skip)
                            simp only [Option.some.injEq, Prod.mk.injEq] at H
                            obtain ⟨rfl, rfl, rfl⟩ := H
                            go_wp2
                            go_ret3
                            exact ⟨by first | rfl | exact retNe _ | (simp [errW_none, errW_some] <;> rfl) | (simp [*, errW_none, errW_some] <;> rfl), by repeat (first | (with_reducible first | exact HB.out | apply below_alloc | apply pw_below_drewN | apply below_drew1) | exact HB.out)⟩
                          · rw [if_neg c27] at H
                            have c27b0 : decide (32 < (wrap64 (x6_2 + 1))) = false := decide_eq_false c27
                            clear c27
                            (first | rw [c27b0] | (simp only [i64_w, i32_w]; rw [c27b0]) | skip)
                            have H' := Aside0.mk H
                            clear H
                            go_wp2
                            go_meet
                            case rel => exact ⟨_, (wrap64 (x6_2 + 1)), (by first | rfl | (simp; done) | (simp [*]; done)), H', ⟨by have := HJ1.out; have := HK2.out; have := HJ10.out; have := HJ17.out; first | omega | exact Nat.le_refl _⟩, ⟨by (with_reducible repeat (first | apply Kd.R_alloc | apply Kd.R_drewN | apply Kd.R_drew)); exact HO_5.out⟩, ⟨by repeat (first | (with_reducible first | exact HB.out | apply below_alloc | apply pw_below_drewN | apply below_drew1) | exact HB.out)⟩⟩
                        · replace c26 := Bool.eq_false_iff.mpr c26
                          subst c26
                          have H1 : (incipitref09_Dest.j4 kj17 a0 t156 x6_2 x7_2) = some (r1, r2, r3) := by rw [if_neg (show ¬ (false = true) by decide)] at H; exact H
                          clear H
                          have H := H1
                          clear H1
                          have H' := Aside0.mk H
                          clear H
                          go_wp2
                          go_meet
                          case rel => exact ⟨_, (x6_2), (by first | rfl | (simp; done) | (simp [*]; done)), H', ⟨by have := HJ1.out; have := HK2.out; have := HJ10.out; have := HJ17.out; first | omega | exact Nat.le_refl _⟩, ⟨by (with_reducible repeat (first | apply Kd.R_alloc | apply Kd.R_drewN | apply Kd.R_drew)); exact HO_5.out⟩, ⟨by repeat (first | (with_reducible first | exact HB.out | apply below_alloc | apply pw_below_drewN | apply below_drew1) | exact HB.out)⟩⟩
                      case rest =>
                        clear HC25
                        try clear c1
                        try clear p1
                        try clear q1
                        try clear hx1
                        try clear c2
                        try clear p2
                        try clear q2
                        try clear hx2
                        try clear c3
                        try clear c3b0
                        try clear c3b1
                        try clear c4
                        try clear c4b0
                        try clear c4b1
                        try clear p5
                        try clear q5
                        try clear hx5
                        try clear qi5
                        try clear c6
                        try clear p6
                        try clear c12
                        try clear c12b0
                        try clear c13
                        try clear c13b0
                        try clear p14
                        try clear q14
                        try clear hx14
                        try clear c15
                        try clear c15b0
                        try clear p16
                        try clear q16
                        try clear hx16
                        try clear c17
                        try clear c19
                        try clear c19b0
                        try clear c20
                        try clear c20b0
                        try clear p21
                        try clear q21
                        try clear hx21
                        try clear c22
                        try clear c22b0
                        try clear c22b1
                        try clear c23
                        try clear c23b0
                        try clear c26
                        try clear c27
                        try clear c27b0
                        try clear hx160_0
                        try clear p1
                        try clear p14
                        try clear p16
                        try clear p160
                        try clear p2
                        try clear p21
                        try clear p5
                        try clear q1
                        try clear q14
                        try clear q16
                        try clear q160
                        try clear q2
                        try clear q21
                        try clear q5
                        obtain ⟨kq, x6_24, rfl, HA, HJ24, HO_5, HB⟩ := hcut
                        cases kq with
                        | zero => exact absurd HA.out (by simp [incipitref09_Dest.j4])
                        | succ kj24 =>
                          have H := HA.out
                          clear HA
                          simp only [incipitref09_Dest.j4] at H
                          have HC28 := Aside0.mk H
                          clear H
                          go_upto_region 11 with (fail)
                          go_cut [63] (fun v63 wc => ∃ (kq : Nat) (x63_27 : Bool), v63 = .bool x63_27 ∧ Aside0 (incipitref09_Dest.j5 kq a0 t156 x6_24 x7_2 x63_27 = some (r1, r2, r3)) ∧ Aside0 (kq ≤ kj24) ∧ Aside0 (Kd.R Kd.bool 4 wc w.heap.size (fun _ => True) v157 t156) ∧ Aside0 (Below w.heap.size w wc))
                          case first =>
                            have H := HC28.out
                            clear HC28
                            by_cases c29 : 0 ≤ x7_2
                            · rw [if_pos c29] at H
                              have c29b0 : decide (0 ≤ x7_2) = true := decide_eq_true c29
                              clear c29
                              (first | rw [c29b0] | (simp only [i64_w, i32_w]; rw [c29b0]) | skip)
                              by_cases c30 : x7_2 < (a0.size : Int)
                              · rw [if_pos c30] at H
                                have c30b0 : decide (x7_2 < (a0.size : Int)) = true := decide_eq_true c30
                                clear c30
                                by_cases c32 : (bt a0 x7_2) = 41
                                · rw [if_pos c32] at H
                                  have c32b0 : ((bt a0 x7_2) == 41) = true := beq_iff_eq.mpr c32
                                  have c32b1 : ((bt a0 x7_2) != 41) = false := bne_eq_false_iff_eq.mpr c32
                                  clear c32
                                  by_cases c33 : x7_2 < (t156.length : Int)
                                  · rw [if_pos c33] at H
                                    have c33b0 : decide (x7_2 < (t156.length : Int)) = true := decide_eq_true c33
                                    clear c33
                                    have H' := Aside0.mk H
                                    clear H
                                    have p31 : 0 ≤ (x7_2 : Int) := of_decide_eq_true (by first | (with_reducible assumption) | assumption)
                                    have q31 : x7_2 < (a0.size : Int) := of_decide_eq_true (by first | (with_reducible assumption) | assumption)
                                    have hx31 := bt_at a0 x7_2
                                    replace p31 := eq_true p31
                                    replace q31 := eq_true q31
                                    obtain ⟨Ao34, co34, eo34⟩ := Kd.R_slice HO_5.out
                                    subst eo34
                                    have p161 : 0 ≤ (x7_2 : Int) := of_decide_eq_true (by first | (with_reducible assumption) | assumption)
                                    have q161 : x7_2 < (t156.length : Int) := of_decide_eq_true (by first | (with_reducible assumption) | assumption)
                                    obtain ⟨ad161, e161, hx161_0⟩ := Kd.at_bool (Kd.R_reads' HO_5.out).2.2 x7_2 p161 q161
                                    cases e161
                                    replace p161 := eq_true p161
                                    replace q161 := eq_true q161
                                    go_wp2
                                    go_meet
                                    case rel => exact ⟨_, (!(rdOf false t156 x7_2)), (by first | rfl | (simp; done) | (simp [*]; done)), H', ⟨by have := HJ1.out; have := HK2.out; have := HJ10.out; have := HJ17.out; have := HJ24.out; first | omega | exact Nat.le_refl _⟩, ⟨by (with_reducible repeat (first | apply Kd.R_alloc | apply Kd.R_drewN | apply Kd.R_drew)); exact HO_5.out⟩, ⟨by repeat (first | (with_reducible first | exact HB.out | apply below_alloc | apply pw_below_drewN | apply below_drew1) | exact HB.out)⟩⟩
                                  · rw [if_neg c33] at H
                                    exact absurd H (by simp)
                                · rw [if_neg c32] at H
                                  have c32b0 : ((bt a0 x7_2) == 41) = false := beq_eq_false_iff_ne.mpr c32
                                  have c32b1 : ((bt a0 x7_2) != 41) = true := bne_iff_ne.mpr c32
                                  have H' := Aside0.mk H
                                  clear H
                                  have p31 : 0 ≤ (x7_2 : Int) := of_decide_eq_true (by first | (with_reducible assumption) | assumption)
                                  have q31 : x7_2 < (a0.size : Int) := of_decide_eq_true (by first | (with_reducible assumption) | assumption)
                                  have hx31 := bt_at a0 x7_2
                                  replace p31 := eq_true p31
                                  replace q31 := eq_true q31
                                  go_wp2
                                  go_meet
                                  case rel => exact ⟨_, (false), (by first | rfl | (simp; done) | (simp [*]; done)), H', ⟨by have := HJ1.out; have := HK2.out; have := HJ10.out; have := HJ17.out; have := HJ24.out; first | omega | exact Nat.le_refl _⟩, ⟨by (with_reducible repeat (first | apply Kd.R_alloc | apply Kd.R_drewN | apply Kd.R_drew)); exact HO_5.out⟩, ⟨by repeat (first | (with_reducible first | exact HB.out | apply below_alloc | apply pw_below_drewN | apply below_drew1) | exact HB.out)⟩⟩
                              · rw [if_neg c30] at H
                                exact absurd H (by simp)
                            · rw [if_neg c29] at H
                              exact absurd H (by simp)
                          case rest =>
                            clear HC28
                            try clear c1
                            try clear p1
                            try clear q1
                            try clear hx1
                            try clear c2
                            try clear p2
                            try clear q2
                            try clear hx2
                            try clear c3
                            try clear c3b0
                            try clear c3b1
                            try clear p3
                            try clear q3
                            try clear hx3
                            try clear c4
                            try clear c4b0
                            try clear c4b1
                            try clear p5
                            try clear q5
                            try clear hx5
                            try clear qi5
                            try clear c6
                            try clear p6
                            try clear c12
                            try clear c12b0
                            try clear c13
                            try clear c13b0
                            try clear p14
                            try clear q14
                            try clear hx14
                            try clear c15
                            try clear c15b0
                            try clear p16
                            try clear q16
                            try clear hx16
                            try clear c17
                            try clear c19
                            try clear c19b0
                            try clear c20
                            try clear c20b0
                            try clear p21
                            try clear q21
                            try clear hx21
                            try clear c22
                            try clear c22b0
                            try clear c22b1
                            try clear c23
                            try clear c23b0
                            try clear c26
                            try clear c27
                            try clear c27b0
                            try clear c29
                            try clear c29b0
                            try clear c30
                            try clear c30b0
                            try clear p31
                            try clear q31
                            try clear hx31
                            try clear c32
                            try clear c32b0
                            try clear c32b1
                            try clear c33
                            try clear c33b0
                            try clear hx160_0
                            try clear hx161_0
                            try clear p1
                            try clear p14
                            try clear p16
                            try clear p160
                            try clear p161
                            try clear p2
                            try clear p21
                            try clear p31
                            try clear p5
                            try clear p6
                            try clear q1
                            try clear q14
                            try clear q16
                            try clear q160
                            try clear q161
                            try clear q2
                            try clear q21
                            try clear q31
                            try clear q5
                            obtain ⟨kq, x63_27, rfl, HA, HJ27, HO_5, HB⟩ := hcut
                            cases kq with
                            | zero => exact absurd HA.out (by simp [incipitref09_Dest.j5])
                            | succ kj27 =>
                              have H := HA.out
                              clear HA
                              simp only [incipitref09_Dest.j5] at H
                              by_cases c35 : x63_27 = true
                              · subst c35
                                have H1 : (if x6_24 = 0 then (if x7_2 = 0 then (some ((⟨#[]⟩ : ByteArray), 0, false)) else (if x6_24 > 0 then (some ((⟨#[]⟩ : ByteArray), 0, false)) else (if 0 ≤ x7_2 then (if x7_2 ≤ (a0.size : Int) then ((incipitref05_Unescape.f kj27 (a0.extract 0 (x7_2 : Int).toNat)).bind fun t162 => (some (t162, x7_2, true))) else (none)) else (none)))) else (incipitref09_Dest.l0 kj27 a0 t156 (wrap64 (x6_24 - 1)) (wrap64 (x7_2 + 1)))) = some (r1, r2, r3) := by rw [if_pos rfl] at H; exact H
                                clear H
                                have H := H1
                                clear H1
                                by_cases c36 : x6_24 = 0
                                · rw [if_pos c36] at H
                                  have c36b0 : (x6_24 == 0) = true := beq_iff_eq.mpr c36
                                  have c36b1 : (x6_24 != 0) = false := bne_eq_false_iff_eq.mpr c36
                                  clear c36
                                  by_cases c37 : x7_2 = 0
                                  · rw [if_pos c37] at H
                                    have c37b0 : (x7_2 == 0) = true := beq_iff_eq.mpr c37
                                    have c37b1 : (x7_2 != 0) = false := bne_eq_false_iff_eq.mpr c37
                                    clear c37
                                    simp only [Option.some.injEq, Prod.mk.injEq] at H
                                    obtain ⟨rfl, rfl, rfl⟩ := H
                                    go_wp2
                                    go_ret3
                                    exact ⟨by first | rfl | exact retNe _ | (simp [errW_none, errW_some] <;> rfl) | (simp [*, errW_none, errW_some] <;> rfl), by repeat (first | (with_reducible first | exact HB.out | apply below_alloc | apply pw_below_drewN | apply below_drew1) | exact HB.out)⟩
                                  · rw [if_neg c37] at H
                                    have c37b0 : (x7_2 == 0) = false := beq_eq_false_iff_ne.mpr c37
                                    have c37b1 : (x7_2 != 0) = true := bne_iff_ne.mpr c37
                                    by_cases c38 : x6_24 > 0
                                    · rw [if_pos c38] at H
                                      have c38b0 : decide (0 < x6_24) = true := decide_eq_true c38
                                      clear c38
                                      simp only [Option.some.injEq, Prod.mk.injEq] at H
                                      obtain ⟨rfl, rfl, rfl⟩ := H
                                      go_wp2
                                      go_ret3
                                      exact ⟨by first | rfl | exact retNe _ | (simp [errW_none, errW_some] <;> rfl) | (simp [*, errW_none, errW_some] <;> rfl), by repeat (first | (with_reducible first | exact HB.out | apply below_alloc | apply pw_below_drewN | apply below_drew1) | exact HB.out)⟩
                                    · rw [if_neg c38] at H
                                      have c38b0 : decide (0 < x6_24) = false := decide_eq_false c38
                                      clear c38
                                      by_cases c39 : 0 ≤ x7_2
                                      · rw [if_pos c39] at H
                                        have c39b0 := eq_true c39
                                        have c39b1 : decide (0 ≤ x7_2) = true := decide_eq_true c39
                                        clear c39
                                        by_cases c40 : x7_2 ≤ (a0.size : Int)
                                        · rw [if_pos c40] at H
                                          have c40b0 := eq_true c40
                                          have c40b1 : decide (x7_2 ≤ (a0.size : Int)) = true := decide_eq_true c40
                                          clear c40
                                          replace H := Option.bind_eq_some_iff.mp H
                                          obtain ⟨t162, A410, H⟩ := H
                                          replace H : (some (t162, x7_2, true)) = some (r1, r2, r3) := H
                                          have A41 := Aside0.mk A410
                                          clear A410
                                          simp only [Option.some.injEq, Prod.mk.injEq] at H
                                          obtain ⟨rfl, rfl, rfl⟩ := H
                                          go_wp2_with (first | ((with_reducible refine gate_callee (f := 28) rfl ?_); refine goesL_ (some 79) rfl rfl Tryz.func28 (by kernel_rfl) rfl #[.string (a0.extract 0 (x7_2 : Int).toNat)] rfl (by (try simp only [List.map_toArray, List.map_cons, List.map_nil]); first | done | rfl | (simp only [List.length_drop, List.length_take]; rfl)) ?_; (with_reducible refine (incipitref05_Unescape.calls kj27 (a0.extract 0 (x7_2 : Int).toNat) t162 _ A41.out).mono ?_); rintro e w42 ⟨rfl, hb⟩; refine ⟨_, rfl, ?_⟩; have n0_ := Aside0.mk (Kd.R_below (by (with_reducible repeat (first | apply Kd.R_alloc | apply Kd.R_drewN | apply Kd.R_drew)); exact HO_5.out) hb); have n1_ := Aside0.mk (below_step (by repeat (first | (with_reducible first | exact HB.out | apply below_alloc | apply pw_below_drewN | apply below_drew1) | exact HB.out)) hb); clear HO_5; clear HB; have HO_5 := n0_; have HB := n1_; clear n0_ n1_; (try clear hb); (try clear hb2); (try clear hk); (try clear hi)))
                                          go_ret3
                                          exact ⟨by first | rfl | exact retNe _ | (simp [errW_none, errW_some] <;> rfl) | (simp [*, errW_none, errW_some] <;> rfl), by repeat (first | (with_reducible first | exact HB.out | apply below_alloc | apply pw_below_drewN | apply below_drew1) | exact HB.out)⟩
                                        · rw [if_neg c40] at H
                                          exact absurd H (by simp)
                                      · rw [if_neg c39] at H
                                        exact absurd H (by simp)
                                · rw [if_neg c36] at H
                                  have c36b0 : (x6_24 == 0) = false := beq_eq_false_iff_ne.mpr c36
                                  have c36b1 : (x6_24 != 0) = true := bne_iff_ne.mpr c36
                                  have H' := Aside0.mk H
                                  clear H
                                  go_wp2
                                  go_roundg kj27
                                  case measure => have := HJ1.out; have := HK2.out; have := HJ10.out; have := HJ17.out; have := HJ24.out; have := HJ27.out; omega
                                  case rel => exact ⟨(wrap64 (x6_24 - 1)), (wrap64 (x7_2 + 1)), (by first | rfl | (simp; done) | (simp [*]; done)), (by first | rfl | (simp; done) | (simp [*]; done)), H', ⟨by have := HJ1.out; have := HK2.out; have := HJ10.out; have := HJ17.out; have := HJ24.out; have := HJ27.out; omega⟩, ⟨by (with_reducible repeat (first | apply Kd.R_alloc | apply Kd.R_drewN | apply Kd.R_drew)); exact HO_5.out⟩, ⟨by repeat (first | (with_reducible first | exact HB.out | apply below_alloc | apply pw_below_drewN | apply below_drew1) | exact HB.out)⟩⟩
                              · replace c35 := Bool.eq_false_iff.mpr c35
                                subst c35
                                have H1 : (incipitref09_Dest.l0 kj27 a0 t156 x6_24 (wrap64 (x7_2 + 1))) = some (r1, r2, r3) := by rw [if_neg (show ¬ (false = true) by decide)] at H; exact H
                                clear H
                                have H := H1
                                clear H1
                                have H' := Aside0.mk H
                                clear H
                                go_wp2
                                go_roundg kj27
                                case measure => have := HJ1.out; have := HK2.out; have := HJ10.out; have := HJ17.out; have := HJ24.out; have := HJ27.out; omega
                                case rel => exact ⟨(x6_24), (wrap64 (x7_2 + 1)), (by first | rfl | (simp; done) | (simp [*]; done)), (by first | rfl | (simp; done) | (simp [*]; done)), H', ⟨by have := HJ1.out; have := HK2.out; have := HJ10.out; have := HJ17.out; have := HJ24.out; have := HJ27.out; omega⟩, ⟨by (with_reducible repeat (first | apply Kd.R_alloc | apply Kd.R_drewN | apply Kd.R_drew)); exact HO_5.out⟩, ⟨by repeat (first | (with_reducible first | exact HB.out | apply below_alloc | apply pw_below_drewN | apply below_drew1) | exact HB.out)⟩⟩
                · replace c17 := Bool.eq_false_iff.mpr c17
                  subst c17
                  have H1 : (if x7_2 = 0 then (some ((⟨#[]⟩ : ByteArray), 0, false)) else (if x6_2 > 0 then (some ((⟨#[]⟩ : ByteArray), 0, false)) else (if 0 ≤ x7_2 then (if x7_2 ≤ (a0.size : Int) then ((incipitref05_Unescape.f kj10 (a0.extract 0 (x7_2 : Int).toNat)).bind fun t159 => (some (t159, x7_2, true))) else (none)) else (none)))) = some (r1, r2, r3) := by rw [if_neg (show ¬ (false = true) by decide)] at H; exact H
                  clear H
                  have H := H1
                  clear H1
                  by_cases c43 : x7_2 = 0
                  · rw [if_pos c43] at H
                    have c43b0 : (x7_2 == 0) = true := beq_iff_eq.mpr c43
                    have c43b1 : (x7_2 != 0) = false := bne_eq_false_iff_eq.mpr c43
                    clear c43
                    simp only [Option.some.injEq, Prod.mk.injEq] at H
                    obtain ⟨rfl, rfl, rfl⟩ := H
                    go_wp2
                    go_ret3
                    exact ⟨by first | rfl | exact retNe _ | (simp [errW_none, errW_some] <;> rfl) | (simp [*, errW_none, errW_some] <;> rfl), by repeat (first | (with_reducible first | exact HB.out | apply below_alloc | apply pw_below_drewN | apply below_drew1) | exact HB.out)⟩
                  · rw [if_neg c43] at H
                    have c43b0 : (x7_2 == 0) = false := beq_eq_false_iff_ne.mpr c43
                    have c43b1 : (x7_2 != 0) = true := bne_iff_ne.mpr c43
                    by_cases c44 : x6_2 > 0
                    · rw [if_pos c44] at H
                      have c44b0 : decide (0 < x6_2) = true := decide_eq_true c44
                      clear c44
                      simp only [Option.some.injEq, Prod.mk.injEq] at H
                      obtain ⟨rfl, rfl, rfl⟩ := H
                      go_wp2
                      go_ret3
                      exact ⟨by first | rfl | exact retNe _ | (simp [errW_none, errW_some] <;> rfl) | (simp [*, errW_none, errW_some] <;> rfl), by repeat (first | (with_reducible first | exact HB.out | apply below_alloc | apply pw_below_drewN | apply below_drew1) | exact HB.out)⟩
                    · rw [if_neg c44] at H
                      have c44b0 : decide (0 < x6_2) = false := decide_eq_false c44
                      clear c44
                      by_cases c45 : 0 ≤ x7_2
                      · rw [if_pos c45] at H
                        have c45b0 := eq_true c45
                        have c45b1 : decide (0 ≤ x7_2) = true := decide_eq_true c45
                        clear c45
                        by_cases c46 : x7_2 ≤ (a0.size : Int)
                        · rw [if_pos c46] at H
                          have c46b0 := eq_true c46
                          have c46b1 : decide (x7_2 ≤ (a0.size : Int)) = true := decide_eq_true c46
                          clear c46
                          replace H := Option.bind_eq_some_iff.mp H
                          obtain ⟨t159, A470, H⟩ := H
                          replace H : (some (t159, x7_2, true)) = some (r1, r2, r3) := H
                          have A47 := Aside0.mk A470
                          clear A470
                          simp only [Option.some.injEq, Prod.mk.injEq] at H
                          obtain ⟨rfl, rfl, rfl⟩ := H
                          go_wp2_with (first | ((with_reducible refine gate_callee (f := 28) rfl ?_); refine goesL_ (some 79) rfl rfl Tryz.func28 (by kernel_rfl) rfl #[.string (a0.extract 0 (x7_2 : Int).toNat)] rfl (by (try simp only [List.map_toArray, List.map_cons, List.map_nil]); first | done | rfl | (simp only [List.length_drop, List.length_take]; rfl)) ?_; (with_reducible refine (incipitref05_Unescape.calls kj10 (a0.extract 0 (x7_2 : Int).toNat) t159 _ A47.out).mono ?_); rintro e w48 ⟨rfl, hb⟩; refine ⟨_, rfl, ?_⟩; have n0_ := Aside0.mk (Kd.R_below (by (with_reducible repeat (first | apply Kd.R_alloc | apply Kd.R_drewN | apply Kd.R_drew)); exact HO_5.out) hb); have n1_ := Aside0.mk (below_step (by repeat (first | (with_reducible first | exact HB.out | apply below_alloc | apply pw_below_drewN | apply below_drew1) | exact HB.out)) hb); clear HO_5; clear HB; have HO_5 := n0_; have HB := n1_; clear n0_ n1_; (try clear hb); (try clear hb2); (try clear hk); (try clear hi)))
                          go_ret3
                          exact ⟨by first | rfl | exact retNe _ | (simp [errW_none, errW_some] <;> rfl) | (simp [*, errW_none, errW_some] <;> rfl), by repeat (first | (with_reducible first | exact HB.out | apply below_alloc | apply pw_below_drewN | apply below_drew1) | exact HB.out)⟩
                        · rw [if_neg c46] at H
                          exact absurd H (by simp)
                      · rw [if_neg c45] at H
                        exact absurd H (by simp)

end Go.Proofs.YtjobchgncdgfaaaGreatDoor.PA

namespace Go.Proofs.YtjobchgncdgfaaaGreatDoor.PA
open Go.RowKit Go.Proofs.YtjobchgncdgfaaaGreatDoorW.PrintWords Go.Proofs.YtjobchgncdgfaaaGreatDoorW.PrintLast Go.Proofs.YtjobchgncdgfaaaGreatDoorW.PrintMore
attribute [local go_sem] max2_int min2_int max_two min_two max_three min_three max_four min_four   -- for this text's walks alone
set_option linter.unusedVariables false
set_option linter.unusedSimpArgs false

/-! ### incipitref09_gap: function 32 -/
mutual
def incipitref09_gap.l0 : Nat → ByteArray → Int → Option (Bool)
  | 0, _, _ => none
  | k + 1, x0, x3 => if x3 < (x0.size : Int) then (if 0 ≤ x3 then (if (bt x0 x3) = 10 then (incipitref09_gap.l1 k x0 x3 (wrap64 (x3 + 1))) else (incipitref09_gap.l0 k x0 (wrap64 (x3 + 1)))) else (none)) else (some false)
def incipitref09_gap.l1 : Nat → ByteArray → Int → Int → Option (Bool)
  | 0, _, _, _ => none
  | k + 1, x0, x3, x4 => if x4 < (x0.size : Int) then (if 0 ≤ x4 then (if (bt x0 x4) = 32 then (incipitref09_gap.l1 k x0 x3 (wrap64 (x4 + 1))) else (if (bt x0 x4) = 9 then (incipitref09_gap.l1 k x0 x3 (wrap64 (x4 + 1))) else (if (bt x0 x4) = 10 then (some true) else (incipitref09_gap.l0 k x0 (wrap64 (x3 + 1)))))) else (none)) else (incipitref09_gap.l0 k x0 (wrap64 (x3 + 1)))
end
def incipitref09_gap.f (k : Nat) (a0 : ByteArray) : Option (Bool) := incipitref09_gap.l0 k a0 0
set_option maxHeartbeats 8000000 in
set_option maxRecDepth 100000 in
theorem incipitref09_gap.calls (k : Nat) (a0 : ByteArray) (r : Bool) (w : World) (h : incipitref09_gap.f k a0 = some r) :
    Calls Tryz.prog 32 #[.string a0] w fun e w' => e = .returned (.bool r) ∧ Drawn0 w w' := by
  have H : (incipitref09_gap.l0 k a0 0) = some r := h
  clear h
  have H' := Aside0.mk H
  clear H
  go_enter Tryz.func32, Tryz.ntmps32
  go_wp2
  go_loopg [3] k (fun kq v3 w' => ∃ (x3_1 : Int), v3 = .int .i64 x3_1 ∧ Aside0 (incipitref09_gap.l0 kq a0 x3_1 = some r) ∧ Aside0 (kq ≤ k) ∧ Drawn0 w w')
  case atStart => exact ⟨(0), (by first | rfl | (simp; done) | (simp [*]; done)), H', ⟨Nat.le_refl _⟩, by repeat (first | exact Drawn0.refl _ | apply Drawn0.step)⟩
  case round =>
    clear H'
    obtain ⟨x3_1, rfl, HA, HK1, ⟨m1, rfl⟩⟩ := hrel
    cases gk with
    | zero => exact absurd HA.out (by simp [incipitref09_gap.l0])
    | succ k1 =>
      have H := HA.out
      clear HA
      simp only [incipitref09_gap.l0] at H
      by_cases c2 : x3_1 < (a0.size : Int)
      · rw [if_pos c2] at H
        have c2b0 : decide (x3_1 < (a0.size : Int)) = true := decide_eq_true c2
        clear c2
        by_cases c3 : 0 ≤ x3_1
        · rw [if_pos c3] at H
          have c3b0 : decide (0 ≤ x3_1) = true := decide_eq_true c3
          clear c3
          by_cases c5 : (bt a0 x3_1) = 10
          · rw [if_pos c5] at H
            have c5b0 : ((bt a0 x3_1) == 10) = true := beq_iff_eq.mpr c5
            have c5b1 : ((bt a0 x3_1) != 10) = false := bne_eq_false_iff_eq.mpr c5
            clear c5
            have H' := Aside0.mk H
            clear H
            have p4 : 0 ≤ (x3_1 : Int) := of_decide_eq_true (by first | (with_reducible assumption) | assumption)
            have q4 : x3_1 < (a0.size : Int) := of_decide_eq_true (by first | (with_reducible assumption) | assumption)
            have hx4 := bt_at a0 x3_1
            replace p4 := eq_true p4
            replace q4 := eq_true q4
            go_wp2
            go_loopg [4] k1 (fun kq v4 w' => ∃ (x4_2 : Int), v4 = .int .i64 x4_2 ∧ Aside0 (incipitref09_gap.l1 kq a0 x3_1 x4_2 = some r) ∧ Aside0 (kq ≤ k1) ∧ Drawn0 w w')
            case atStart => exact ⟨(wrap64 (x3_1 + 1)), (by first | rfl | (simp; done) | (simp [*]; done)), H', ⟨Nat.le_refl _⟩, by repeat (first | exact Drawn0.refl _ | apply Drawn0.step)⟩
            case round =>
              clear H'
              try clear c2
              try clear c2b0
              try clear p2
              try clear c3
              try clear c3b0
              try clear p4
              try clear q4
              try clear hx4
              try clear c5
              try clear c5b0
              try clear c5b1
              try clear p4
              try clear q4
              obtain ⟨x4_2, rfl, HA, HK2, ⟨m2, rfl⟩⟩ := hrel
              cases gk with
              | zero => exact absurd HA.out (by simp [incipitref09_gap.l1])
              | succ k2 =>
                have H := HA.out
                clear HA
                simp only [incipitref09_gap.l1] at H
                by_cases c6 : x4_2 < (a0.size : Int)
                · rw [if_pos c6] at H
                  have c6b0 : decide (x4_2 < (a0.size : Int)) = true := decide_eq_true c6
                  clear c6
                  by_cases c7 : 0 ≤ x4_2
                  · rw [if_pos c7] at H
                    have c7b0 : decide (0 ≤ x4_2) = true := decide_eq_true c7
                    clear c7
                    by_cases c9 : (bt a0 x4_2) = 32
                    · rw [if_pos c9] at H
                      have c9b0 : ((bt a0 x4_2) == 32) = true := beq_iff_eq.mpr c9
                      have c9b1 : ((bt a0 x4_2) != 32) = false := bne_eq_false_iff_eq.mpr c9
                      clear c9
                      have H' := Aside0.mk H
                      clear H
                      have p8 : 0 ≤ (x4_2 : Int) := of_decide_eq_true (by first | (with_reducible assumption) | assumption)
                      have q8 : x4_2 < (a0.size : Int) := of_decide_eq_true (by first | (with_reducible assumption) | assumption)
                      have hx8 := bt_at a0 x4_2
                      replace p8 := eq_true p8
                      replace q8 := eq_true q8
                      go_wp2
                      go_roundg k2
                      case measure => have := HK1.out; have := HK2.out; omega
                      case rel => exact ⟨(wrap64 (x4_2 + 1)), (by first | rfl | (simp; done) | (simp [*]; done)), H', ⟨by have := HK1.out; have := HK2.out; omega⟩, by repeat (first | exact Drawn0.refl _ | apply Drawn0.step)⟩
                    · rw [if_neg c9] at H
                      have c9b0 : ((bt a0 x4_2) == 32) = false := beq_eq_false_iff_ne.mpr c9
                      have c9b1 : ((bt a0 x4_2) != 32) = true := bne_iff_ne.mpr c9
                      by_cases c11 : (bt a0 x4_2) = 9
                      · rw [if_pos c11] at H
                        have c11b0 : ((bt a0 x4_2) == 9) = true := beq_iff_eq.mpr c11
                        have c11b1 : ((bt a0 x4_2) != 9) = false := bne_eq_false_iff_eq.mpr c11
                        clear c11
                        have H' := Aside0.mk H
                        clear H
                        have p8 : 0 ≤ (x4_2 : Int) := of_decide_eq_true (by first | (with_reducible assumption) | assumption)
                        have q8 : x4_2 < (a0.size : Int) := of_decide_eq_true (by first | (with_reducible assumption) | assumption)
                        have hx8 := bt_at a0 x4_2
                        replace p8 := eq_true p8
                        replace q8 := eq_true q8
                        have p10 : 0 ≤ (x4_2 : Int) := of_decide_eq_true (by first | (with_reducible assumption) | assumption)
                        have q10 : x4_2 < (a0.size : Int) := of_decide_eq_true (by first | (with_reducible assumption) | assumption)
                        have hx10 := bt_at a0 x4_2
                        replace p10 := eq_true p10
                        replace q10 := eq_true q10
                        go_wp2
                        go_roundg k2
                        case measure => have := HK1.out; have := HK2.out; omega
                        case rel => exact ⟨(wrap64 (x4_2 + 1)), (by first | rfl | (simp; done) | (simp [*]; done)), H', ⟨by have := HK1.out; have := HK2.out; omega⟩, by repeat (first | exact Drawn0.refl _ | apply Drawn0.step)⟩
                      · rw [if_neg c11] at H
                        have c11b0 : ((bt a0 x4_2) == 9) = false := beq_eq_false_iff_ne.mpr c11
                        have c11b1 : ((bt a0 x4_2) != 9) = true := bne_iff_ne.mpr c11
                        by_cases c13 : (bt a0 x4_2) = 10
                        · rw [if_pos c13] at H
                          have c13b0 : ((bt a0 x4_2) == 10) = true := beq_iff_eq.mpr c13
                          have c13b1 : ((bt a0 x4_2) != 10) = false := bne_eq_false_iff_eq.mpr c13
                          clear c13
                          obtain rfl := Option.some.inj H
                          have p8 : 0 ≤ (x4_2 : Int) := of_decide_eq_true (by first | (with_reducible assumption) | assumption)
                          have q8 : x4_2 < (a0.size : Int) := of_decide_eq_true (by first | (with_reducible assumption) | assumption)
                          have hx8 := bt_at a0 x4_2
                          replace p8 := eq_true p8
                          replace q8 := eq_true q8
                          have p10 : 0 ≤ (x4_2 : Int) := of_decide_eq_true (by first | (with_reducible assumption) | assumption)
                          have q10 : x4_2 < (a0.size : Int) := of_decide_eq_true (by first | (with_reducible assumption) | assumption)
                          have hx10 := bt_at a0 x4_2
                          replace p10 := eq_true p10
                          replace q10 := eq_true q10
                          have p12 : 0 ≤ (x4_2 : Int) := of_decide_eq_true (by first | (with_reducible assumption) | assumption)
                          have q12 : x4_2 < (a0.size : Int) := of_decide_eq_true (by first | (with_reducible assumption) | assumption)
                          have hx12 := bt_at a0 x4_2
                          replace p12 := eq_true p12
                          replace q12 := eq_true q12
                          go_wp2
                          go_ret
                          exact ⟨by first | rfl | (simp; done) | (simp [*]; done), by repeat (first | exact Drawn0.refl _ | apply Drawn0.step)⟩
                        · rw [if_neg c13] at H
                          have c13b0 : ((bt a0 x4_2) == 10) = false := beq_eq_false_iff_ne.mpr c13
                          have c13b1 : ((bt a0 x4_2) != 10) = true := bne_iff_ne.mpr c13
                          have H' := Aside0.mk H
                          clear H
                          have p8 : 0 ≤ (x4_2 : Int) := of_decide_eq_true (by first | (with_reducible assumption) | assumption)
                          have q8 : x4_2 < (a0.size : Int) := of_decide_eq_true (by first | (with_reducible assumption) | assumption)
                          have hx8 := bt_at a0 x4_2
                          replace p8 := eq_true p8
                          replace q8 := eq_true q8
                          have p10 : 0 ≤ (x4_2 : Int) := of_decide_eq_true (by first | (with_reducible assumption) | assumption)
                          have q10 : x4_2 < (a0.size : Int) := of_decide_eq_true (by first | (with_reducible assumption) | assumption)
                          have hx10 := bt_at a0 x4_2
                          replace p10 := eq_true p10
                          replace q10 := eq_true q10
                          have p12 : 0 ≤ (x4_2 : Int) := of_decide_eq_true (by first | (with_reducible assumption) | assumption)
                          have q12 : x4_2 < (a0.size : Int) := of_decide_eq_true (by first | (with_reducible assumption) | assumption)
                          have hx12 := bt_at a0 x4_2
                          replace p12 := eq_true p12
                          replace q12 := eq_true q12
                          go_wp2
                          go_roundg k2
                          case measure => have := HK1.out; have := HK2.out; omega
                          case rel => exact ⟨(wrap64 (x3_1 + 1)), (by first | rfl | (simp; done) | (simp [*]; done)), H', ⟨by have := HK1.out; have := HK2.out; omega⟩, by repeat (first | exact Drawn0.refl _ | apply Drawn0.step)⟩
                  · rw [if_neg c7] at H
                    exact absurd H (by simp)
                · rw [if_neg c6] at H
                  have c6b0 : decide (x4_2 < (a0.size : Int)) = false := decide_eq_false c6
                  clear c6
                  have H' := Aside0.mk H
                  clear H
                  go_wp2
                  go_roundg k2
                  case measure => have := HK1.out; have := HK2.out; omega
                  case rel => exact ⟨(wrap64 (x3_1 + 1)), (by first | rfl | (simp; done) | (simp [*]; done)), H', ⟨by have := HK1.out; have := HK2.out; omega⟩, by repeat (first | exact Drawn0.refl _ | apply Drawn0.step)⟩
          · rw [if_neg c5] at H
            have c5b0 : ((bt a0 x3_1) == 10) = false := beq_eq_false_iff_ne.mpr c5
            have c5b1 : ((bt a0 x3_1) != 10) = true := bne_iff_ne.mpr c5
            have H' := Aside0.mk H
            clear H
            have p4 : 0 ≤ (x3_1 : Int) := of_decide_eq_true (by first | (with_reducible assumption) | assumption)
            have q4 : x3_1 < (a0.size : Int) := of_decide_eq_true (by first | (with_reducible assumption) | assumption)
            have hx4 := bt_at a0 x3_1
            replace p4 := eq_true p4
            replace q4 := eq_true q4
            go_wp2
            go_roundg k1
            case measure => have := HK1.out; omega
            case rel => exact ⟨(wrap64 (x3_1 + 1)), (by first | rfl | (simp; done) | (simp [*]; done)), H', ⟨by have := HK1.out; omega⟩, by repeat (first | exact Drawn0.refl _ | apply Drawn0.step)⟩
        · rw [if_neg c3] at H
          exact absurd H (by simp)
      · rw [if_neg c2] at H
        have c2b0 : decide (x3_1 < (a0.size : Int)) = false := decide_eq_false c2
        clear c2
        obtain rfl := Option.some.inj H
        go_wp2
        go_ret
        exact ⟨by first | rfl | (simp; done) | (simp [*]; done), by repeat (first | exact Drawn0.refl _ | apply Drawn0.step)⟩

end Go.Proofs.YtjobchgncdgfaaaGreatDoor.PA

namespace Go.Proofs.YtjobchgncdgfaaaGreatDoor.PA
open Go.RowKit Go.Proofs.YtjobchgncdgfaaaGreatDoorW.PrintWords Go.Proofs.YtjobchgncdgfaaaGreatDoorW.PrintLast Go.Proofs.YtjobchgncdgfaaaGreatDoorW.PrintMore
attribute [local go_sem] max2_int min2_int max_two min_two max_three min_three max_four min_four   -- for this text's walks alone
set_option linter.unusedVariables false
set_option linter.unusedSimpArgs false

/-! ### incipitref09_Title: function 15 -/
mutual
def incipitref09_Title.j0 : Nat → ByteArray → Bool → Option (ByteArray × Int)
  | 0, _, _ => none
  | k + 1, x0, x23 => if x23 = true then (some ((⟨#[]⟩ : ByteArray), 0)) else (if 0 < (x0.size : Int) then (if (bt x0 0) = 40 then (incipitref09_Title.j1 k x0 41) else (incipitref09_Title.j1 k x0 (bt x0 0))) else (none))
def incipitref09_Title.j1 : Nat → ByteArray → Int → Option (ByteArray × Int)
  | 0, _, _ => none
  | k + 1, x0, x4 => (incipitref09_marks.f k x0).bind fun t163 => (incipitref09_Title.l0 k x0 x4 t163 1)
def incipitref09_Title.l0 : Nat → ByteArray → Int → List Bool → Int → Option (ByteArray × Int)
  | 0, _, _, _, _ => none
  | k + 1, x0, x4, x5, x6 => if x6 < (x0.size : Int) then (if 0 ≤ x6 then (if x6 < (x5.length : Int) then (if rdOf false x5 x6 = true then (incipitref09_Title.l0 k x0 x4 x5 (wrap64 (x6 + 1))) else (if (bt x0 x6) = x4 then (if 1 ≤ x6 then (if x6 ≤ (x0.size : Int) then ((incipitref09_gap.f k (x0.extract 1 (x6 : Int).toNat)).bind fun t167 => (if t167 = true then (some ((⟨#[]⟩ : ByteArray), 0)) else ((incipitref05_Unescape.f k (x0.extract 1 (x6 : Int).toNat)).bind fun t168 => (some (t168, wrap64 (x6 + 1)))))) else (none)) else (none)) else (if 0 < (x0.size : Int) then (if (bt x0 0) = 40 then (if (bt x0 x6) = 40 then (some ((⟨#[]⟩ : ByteArray), 0)) else (incipitref09_Title.l0 k x0 x4 x5 (wrap64 (x6 + 1)))) else (incipitref09_Title.l0 k x0 x4 x5 (wrap64 (x6 + 1)))) else (none)))) else (none)) else (none)) else (some ((⟨#[]⟩ : ByteArray), 0))
end
def incipitref09_Title.f (k : Nat) (a0 : ByteArray) : Option (ByteArray × Int) := if a0.toList = ([] : List UInt8) then (incipitref09_Title.j0 k a0 true) else (if 0 < (a0.size : Int) then (if (bt a0 0) = 34 then (incipitref09_Title.j0 k a0 false) else (if (bt a0 0) = 39 then (incipitref09_Title.j0 k a0 false) else (incipitref09_Title.j0 k a0 ((bt a0 0) != 40)))) else (none))
set_option maxHeartbeats 8000000 in
set_option maxRecDepth 100000 in
theorem incipitref09_Title.calls (k : Nat) (a0 : ByteArray) (r1 : ByteArray) (r2 : Int) (w : World) (h : incipitref09_Title.f k a0 = some (r1, r2)) :
    Calls Tryz.prog 15 #[.string a0] w fun e w' => e = .returned (.tuple #[.string r1, .int .i64 r2]) ∧ Below w.heap.size w w' := by
  have HB := Aside0.mk (Below.refl w.heap.size w)
  have H : (if a0.toList = ([] : List UInt8) then (incipitref09_Title.j0 k a0 true) else (if 0 < (a0.size : Int) then (if (bt a0 0) = 34 then (incipitref09_Title.j0 k a0 false) else (if (bt a0 0) = 39 then (incipitref09_Title.j0 k a0 false) else (incipitref09_Title.j0 k a0 ((bt a0 0) != 40)))) else (none))) = some (r1, r2) := h
  clear h
  have HC2 := Aside0.mk H
  clear H
  go_enter Tryz.func15, Tryz.ntmps15
  go_upto_region 1 with (fail)
  go_cut [23] (fun v23 wc => ∃ (kq : Nat) (x23_1 : Bool), v23 = .bool x23_1 ∧ Aside0 (incipitref09_Title.j0 kq a0 x23_1 = some (r1, r2)) ∧ Aside0 (kq ≤ k) ∧ Aside0 (Below w.heap.size w wc))
  case first =>
    have H := HC2.out
    clear HC2
    by_cases c3 : a0.toList = ([] : List UInt8)
    · rw [if_pos c3] at H
      have c3b0 : (a0.toList == ([] : List UInt8)) = true := beq_iff_eq.mpr c3
      have c3b1 : (a0.toList != ([] : List UInt8)) = false := bne_eq_false_iff_eq.mpr c3
      clear c3
      (first | rw [c3b0] | (simp only [i64_w, i32_w]; rw [c3b0]) | skip)
      have H' := Aside0.mk H
      clear H
      go_wp2
      go_meet
      case rel => exact ⟨_, (true), (by first | rfl | (simp; done) | (simp [*]; done)), H', ⟨by first | omega | exact Nat.le_refl _⟩, ⟨by repeat (first | (with_reducible first | exact HB.out | apply below_alloc | apply pw_below_drewN | apply below_drew1) | exact HB.out)⟩⟩
    · rw [if_neg c3] at H
      have c3b0 : (a0.toList == ([] : List UInt8)) = false := beq_eq_false_iff_ne.mpr c3
      have c3b1 : (a0.toList != ([] : List UInt8)) = true := bne_iff_ne.mpr c3
      (first | rw [c3b0] | (simp only [i64_w, i32_w]; rw [c3b0]) | skip)
      by_cases c4 : 0 < (a0.size : Int)
      · rw [if_pos c4] at H
        have c4b0 : decide (0 < (a0.size : Int)) = true := decide_eq_true c4
        have c4b1 : decide (0 < a0.size) = true := decide_eq_true (by omega)
        clear c4
        by_cases c6 : (bt a0 0) = 34
        · rw [if_pos c6] at H
          have c6b0 : ((bt a0 0) == 34) = true := beq_iff_eq.mpr c6
          have c6b1 : ((bt a0 0) != 34) = false := bne_eq_false_iff_eq.mpr c6
          clear c6
          have H' := Aside0.mk H
          clear H
          have p5 : 0 ≤ (0 : Int) := (by omega)
          have q5 : 0 < a0.size := (by have : (0 : Int) < (a0.size : Int) := of_decide_eq_true (by first | (with_reducible assumption) | assumption); omega)
          have hx5 : ∀ h : 0 < a0.size, ((a0[0]'h).toNat : Int) = bt a0 0 := bt_at a0 0
          clear p5
          have qi5 : (0 < (a0.size : Int)) = True := eq_true (of_decide_eq_true (by first | (with_reducible assumption) | assumption))
          replace q5 := eq_true q5
          go_wp2
          go_meet
          case rel => exact ⟨_, (false), (by first | rfl | (simp; done) | (simp [*]; done)), H', ⟨by first | omega | exact Nat.le_refl _⟩, ⟨by repeat (first | (with_reducible first | exact HB.out | apply below_alloc | apply pw_below_drewN | apply below_drew1) | exact HB.out)⟩⟩
        · rw [if_neg c6] at H
          have c6b0 : ((bt a0 0) == 34) = false := beq_eq_false_iff_ne.mpr c6
          have c6b1 : ((bt a0 0) != 34) = true := bne_iff_ne.mpr c6
          by_cases c8 : (bt a0 0) = 39
          · rw [if_pos c8] at H
            have c8b0 : ((bt a0 0) == 39) = true := beq_iff_eq.mpr c8
            have c8b1 : ((bt a0 0) != 39) = false := bne_eq_false_iff_eq.mpr c8
            clear c8
            have H' := Aside0.mk H
            clear H
            have p5 : 0 ≤ (0 : Int) := (by omega)
            have q5 : 0 < a0.size := (by have : (0 : Int) < (a0.size : Int) := of_decide_eq_true (by first | (with_reducible assumption) | assumption); omega)
            have hx5 : ∀ h : 0 < a0.size, ((a0[0]'h).toNat : Int) = bt a0 0 := bt_at a0 0
            clear p5
            have qi5 : (0 < (a0.size : Int)) = True := eq_true (of_decide_eq_true (by first | (with_reducible assumption) | assumption))
            replace q5 := eq_true q5
            have p7 : 0 ≤ (0 : Int) := (by omega)
            have q7 : 0 < a0.size := (by have : (0 : Int) < (a0.size : Int) := of_decide_eq_true (by first | (with_reducible assumption) | assumption); omega)
            have hx7 : ∀ h : 0 < a0.size, ((a0[0]'h).toNat : Int) = bt a0 0 := bt_at a0 0
            clear p7
            have qi7 : (0 < (a0.size : Int)) = True := eq_true (of_decide_eq_true (by first | (with_reducible assumption) | assumption))
            replace q7 := eq_true q7
            go_wp2
            go_meet
            case rel => exact ⟨_, (false), (by first | rfl | (simp; done) | (simp [*]; done)), H', ⟨by first | omega | exact Nat.le_refl _⟩, ⟨by repeat (first | (with_reducible first | exact HB.out | apply below_alloc | apply pw_below_drewN | apply below_drew1) | exact HB.out)⟩⟩
          · rw [if_neg c8] at H
            have c8b0 : ((bt a0 0) == 39) = false := beq_eq_false_iff_ne.mpr c8
            have c8b1 : ((bt a0 0) != 39) = true := bne_iff_ne.mpr c8
            have H' := Aside0.mk H
            clear H
            have p5 : 0 ≤ (0 : Int) := (by omega)
            have q5 : 0 < a0.size := (by have : (0 : Int) < (a0.size : Int) := of_decide_eq_true (by first | (with_reducible assumption) | assumption); omega)
            have hx5 : ∀ h : 0 < a0.size, ((a0[0]'h).toNat : Int) = bt a0 0 := bt_at a0 0
            clear p5
            have qi5 : (0 < (a0.size : Int)) = True := eq_true (of_decide_eq_true (by first | (with_reducible assumption) | assumption))
            replace q5 := eq_true q5
            have p7 : 0 ≤ (0 : Int) := (by omega)
            have q7 : 0 < a0.size := (by have : (0 : Int) < (a0.size : Int) := of_decide_eq_true (by first | (with_reducible assumption) | assumption); omega)
            have hx7 : ∀ h : 0 < a0.size, ((a0[0]'h).toNat : Int) = bt a0 0 := bt_at a0 0
            clear p7
            have qi7 : (0 < (a0.size : Int)) = True := eq_true (of_decide_eq_true (by first | (with_reducible assumption) | assumption))
            replace q7 := eq_true q7
            have p9 : 0 ≤ (0 : Int) := (by omega)
            have q9 : 0 < a0.size := (by have : (0 : Int) < (a0.size : Int) := of_decide_eq_true (by first | (with_reducible assumption) | assumption); omega)
            have hx9 : ∀ h : 0 < a0.size, ((a0[0]'h).toNat : Int) = bt a0 0 := bt_at a0 0
            clear p9
            have qi9 : (0 < (a0.size : Int)) = True := eq_true (of_decide_eq_true (by first | (with_reducible assumption) | assumption))
            replace q9 := eq_true q9
            go_wp2
            go_meet
            case rel => exact ⟨_, (((bt a0 0) != 40)), (by first | rfl | (simp; done) | (simp [*]; done)), H', ⟨by first | omega | exact Nat.le_refl _⟩, ⟨by repeat (first | (with_reducible first | exact HB.out | apply below_alloc | apply pw_below_drewN | apply below_drew1) | exact HB.out)⟩⟩
      · rw [if_neg c4] at H
        exact absurd H (by simp)
  case rest =>
    clear HC2
    try clear c1
    try clear p2
    try clear c3
    try clear c3b0
    try clear c3b1
    try clear c4
    try clear c4b0
    try clear c4b1
    try clear p5
    try clear q5
    try clear hx5
    try clear qi5
    try clear c6
    try clear c6b0
    try clear c6b1
    try clear p7
    try clear q7
    try clear hx7
    try clear qi7
    try clear c8
    try clear c8b0
    try clear c8b1
    try clear p9
    try clear q9
    try clear hx9
    try clear qi9
    try clear p5
    try clear p7
    try clear p9
    try clear q5
    try clear q7
    try clear q9
    obtain ⟨kq, x23_1, rfl, HA, HJ1, HB⟩ := hcut
    cases kq with
    | zero => exact absurd HA.out (by simp [incipitref09_Title.j0])
    | succ kj1 =>
      have H := HA.out
      clear HA
      simp only [incipitref09_Title.j0] at H
      by_cases c10 : x23_1 = true
      · subst c10
        have H1 : (some ((⟨#[]⟩ : ByteArray), 0)) = some (r1, r2) := by rw [if_pos rfl] at H; exact H
        clear H
        have H := H1
        clear H1
        simp only [Option.some.injEq, Prod.mk.injEq] at H
        obtain ⟨rfl, rfl⟩ := H
        go_wp2
        go_ret2
        exact ⟨by first | rfl | exact retNe _ | (simp [errW_none, errW_some] <;> rfl) | (simp [*, errW_none, errW_some] <;> rfl), by repeat (first | (with_reducible first | exact HB.out | apply below_alloc | apply pw_below_drewN | apply below_drew1) | exact HB.out)⟩
      · replace c10 := Bool.eq_false_iff.mpr c10
        subst c10
        have H1 : (if 0 < (a0.size : Int) then (if (bt a0 0) = 40 then (incipitref09_Title.j1 kj1 a0 41) else (incipitref09_Title.j1 kj1 a0 (bt a0 0))) else (none)) = some (r1, r2) := by rw [if_neg (show ¬ (false = true) by decide)] at H; exact H
        clear H
        have H := H1
        clear H1
        by_cases c11 : 0 < (a0.size : Int)
        · rw [if_pos c11] at H
          have c11b0 : decide (0 < (a0.size : Int)) = true := decide_eq_true c11
          have c11b1 : decide (0 < a0.size) = true := decide_eq_true (by omega)
          clear c11
          have HC13 := Aside0.mk H
          clear H
          have p12 : 0 ≤ (0 : Int) := (by omega)
          have q12 : 0 < a0.size := (by have : (0 : Int) < (a0.size : Int) := of_decide_eq_true (by first | (with_reducible assumption) | assumption); omega)
          have hx12 : ∀ h : 0 < a0.size, ((a0[0]'h).toNat : Int) = bt a0 0 := bt_at a0 0
          clear p12
          have qi12 : (0 < (a0.size : Int)) = True := eq_true (of_decide_eq_true (by first | (with_reducible assumption) | assumption))
          replace q12 := eq_true q12
          go_upto_if 27 with (fail)
          go_cut [4] (fun v4 wc => ∃ (kq : Nat) (x4_12 : Int), v4 = .int .u8 x4_12 ∧ Aside0 (incipitref09_Title.j1 kq a0 x4_12 = some (r1, r2)) ∧ Aside0 (kq ≤ kj1) ∧ Aside0 (Below w.heap.size w wc))
          case first =>
            have H := HC13.out
            clear HC13
            by_cases c14 : (bt a0 0) = 40
            · rw [if_pos c14] at H
              have c14b0 : ((bt a0 0) == 40) = true := beq_iff_eq.mpr c14
              have c14b1 : ((bt a0 0) != 40) = false := bne_eq_false_iff_eq.mpr c14
              clear c14
              (first | rw [c14b0] | (simp only [i64_w, i32_w]; rw [c14b0]) | skip)
              have H' := Aside0.mk H
              clear H
              go_wp2
              go_meet
              case rel => exact ⟨_, (41), (by first | rfl | (simp; done) | (simp [*]; done)), H', ⟨by have := HJ1.out; first | omega | exact Nat.le_refl _⟩, ⟨by repeat (first | (with_reducible first | exact HB.out | apply below_alloc | apply pw_below_drewN | apply below_drew1) | exact HB.out)⟩⟩
            · rw [if_neg c14] at H
              have c14b0 : ((bt a0 0) == 40) = false := beq_eq_false_iff_ne.mpr c14
              have c14b1 : ((bt a0 0) != 40) = true := bne_iff_ne.mpr c14
              (first | rw [c14b0] | (simp only [i64_w, i32_w]; rw [c14b0]) | skip)
              have H' := Aside0.mk H
              clear H
              go_wp2
              go_meet
              case rel => exact ⟨_, (bt a0 0), (by first | rfl | (simp; done) | (simp [*]; done)), H', ⟨by have := HJ1.out; first | omega | exact Nat.le_refl _⟩, ⟨by repeat (first | (with_reducible first | exact HB.out | apply below_alloc | apply pw_below_drewN | apply below_drew1) | exact HB.out)⟩⟩
          case rest =>
            clear HC13
            try clear c1
            try clear p1
            try clear q1
            try clear hx1
            try clear qi1
            try clear p2
            try clear c3
            try clear c3b0
            try clear c3b1
            try clear c4
            try clear c4b0
            try clear c4b1
            try clear p5
            try clear q5
            try clear hx5
            try clear qi5
            try clear c6
            try clear c6b0
            try clear c6b1
            try clear p7
            try clear q7
            try clear hx7
            try clear qi7
            try clear c8
            try clear c8b0
            try clear c8b1
            try clear p9
            try clear q9
            try clear hx9
            try clear qi9
            try clear c10
            try clear c11
            try clear c11b0
            try clear c11b1
            try clear p12
            try clear q12
            try clear hx12
            try clear qi12
            try clear c14
            try clear c14b0
            try clear c14b1
            try clear p12
            try clear p2
            try clear p5
            try clear p7
            try clear p9
            try clear q12
            try clear q5
            try clear q7
            try clear q9
            obtain ⟨kq, x4_12, rfl, HA, HJ12, HB⟩ := hcut
            cases kq with
            | zero => exact absurd HA.out (by simp [incipitref09_Title.j1])
            | succ kj12 =>
              have H := HA.out
              clear HA
              simp only [incipitref09_Title.j1] at H
              replace H := Option.bind_eq_some_iff.mp H
              obtain ⟨t163, A150, H⟩ := H
              replace H : (incipitref09_Title.l0 kj12 a0 x4_12 t163 1) = some (r1, r2) := H
              have A15 := Aside0.mk A150
              clear A150
              have H' := Aside0.mk H
              clear H
              go_wp2_with (first | ((with_reducible refine gate_callee (f := 23) rfl ?_); refine goesL_ (some 29) rfl rfl Tryz.func23 (by kernel_rfl) rfl #[.string a0] rfl (by (try simp only [List.map_toArray, List.map_cons, List.map_nil]); first | done | rfl | (simp only [List.length_drop, List.length_take]; rfl)) ?_; (with_reducible refine (incipitref09_marks.calls kj12 a0 t163 _ A15.out).mono ?_); rintro e w16 ⟨v164, rfl, ho0, hb⟩; refine ⟨_, rfl, ?_⟩; have n0_ := Aside0.mk (Kd.R_lower ho0 (below_size (by repeat (first | (with_reducible first | exact HB.out | apply below_alloc | apply pw_below_drewN | apply below_drew1) | exact HB.out)))); have n1_ := Aside0.mk (below_step (by repeat (first | (with_reducible first | exact HB.out | apply below_alloc | apply pw_below_drewN | apply below_drew1) | exact HB.out)) hb); clear HB; have HO165 := n0_; have HB := n1_; clear n0_ n1_; (try clear hb); (try clear hb2); (try clear hk); (try clear hi); (try clear ho0)))
              go_loopg [6] kj12 (fun kq v6 w' => ∃ (x6_3 : Int), v6 = .int .i64 x6_3 ∧ Aside0 (incipitref09_Title.l0 kq a0 x4_12 t163 x6_3 = some (r1, r2)) ∧ Aside0 (kq ≤ kj12) ∧ Aside0 (Kd.R Kd.bool 4 w' w.heap.size (fun _ => True) v164 t163) ∧ Aside0 (Below w.heap.size w w'))
              case atStart => exact ⟨(1), (by first | rfl | (simp; done) | (simp [*]; done)), H', ⟨Nat.le_refl _⟩, ⟨by (with_reducible repeat (first | apply Kd.R_alloc | apply Kd.R_drewN | apply Kd.R_drew)); exact HO165.out⟩, ⟨by repeat (first | (with_reducible first | exact HB.out | apply below_alloc | apply pw_below_drewN | apply below_drew1) | exact HB.out)⟩⟩
              case round =>
                clear H'
                try clear c1
                try clear p1
                try clear q1
                try clear hx1
                try clear qi1
                try clear c2
                try clear p2
                try clear c3
                try clear c3b0
                try clear c3b1
                try clear c4
                try clear c4b0
                try clear c4b1
                try clear p5
                try clear q5
                try clear hx5
                try clear qi5
                try clear c6
                try clear c6b0
                try clear c6b1
                try clear p7
                try clear q7
                try clear hx7
                try clear qi7
                try clear c8
                try clear c8b0
                try clear c8b1
                try clear p9
                try clear q9
                try clear hx9
                try clear qi9
                try clear c10
                try clear c11
                try clear c11b0
                try clear c11b1
                try clear p12
                try clear q12
                try clear hx12
                try clear qi12
                try clear c14
                try clear c14b0
                try clear c14b1
                try clear c15
                try clear p1
                try clear p12
                try clear p2
                try clear p5
                try clear p7
                try clear p9
                try clear q1
                try clear q12
                try clear q5
                try clear q7
                try clear q9
                obtain ⟨x6_3, rfl, HA, HK3, HO_5, HB⟩ := hrel
                cases gk with
                | zero => exact absurd HA.out (by simp [incipitref09_Title.l0])
                | succ k3 =>
                  have H := HA.out
                  clear HA
                  simp only [incipitref09_Title.l0] at H
                  by_cases c17 : x6_3 < (a0.size : Int)
                  · rw [if_pos c17] at H
                    have c17b0 : decide (x6_3 < (a0.size : Int)) = true := decide_eq_true c17
                    clear c17
                    by_cases c18 : 0 ≤ x6_3
                    · rw [if_pos c18] at H
                      have c18b0 : decide (0 ≤ x6_3) = true := decide_eq_true c18
                      clear c18
                      by_cases c19 : x6_3 < (t163.length : Int)
                      · rw [if_pos c19] at H
                        have c19b0 : decide (x6_3 < (t163.length : Int)) = true := decide_eq_true c19
                        clear c19
                        obtain ⟨bq20, hbq20⟩ : ∃ b_ : Bool, b_ = (rdOf false t163 x6_3) := ⟨_, rfl⟩
                        replace H : (if bq20 = true then (incipitref09_Title.l0 k3 a0 x4_12 t163 (wrap64 (x6_3 + 1))) else (if (bt a0 x6_3) = x4_12 then (if 1 ≤ x6_3 then (if x6_3 ≤ (a0.size : Int) then ((incipitref09_gap.f k3 (a0.extract 1 (x6_3 : Int).toNat)).bind fun t167 => (if t167 = true then (some ((⟨#[]⟩ : ByteArray), 0)) else ((incipitref05_Unescape.f k3 (a0.extract 1 (x6_3 : Int).toNat)).bind fun t168 => (some (t168, wrap64 (x6_3 + 1)))))) else (none)) else (none)) else (if 0 < (a0.size : Int) then (if (bt a0 0) = 40 then (if (bt a0 x6_3) = 40 then (some ((⟨#[]⟩ : ByteArray), 0)) else (incipitref09_Title.l0 k3 a0 x4_12 t163 (wrap64 (x6_3 + 1)))) else (incipitref09_Title.l0 k3 a0 x4_12 t163 (wrap64 (x6_3 + 1)))) else (none)))) = some (r1, r2) := by rw [← hbq20] at H; exact H
                        have Nbq20 := Aside0.mk hbq20
                        clear hbq20
                        by_cases c21 : bq20 = true
                        · subst c21
                          have H1 : (incipitref09_Title.l0 k3 a0 x4_12 t163 (wrap64 (x6_3 + 1))) = some (r1, r2) := by rw [if_pos rfl] at H; exact H
                          clear H
                          have H := H1
                          clear H1
                          have H' := Aside0.mk H
                          clear H
                          obtain ⟨Ao22, co22, eo22⟩ := Kd.R_slice HO_5.out
                          subst eo22
                          have p166 : 0 ≤ (x6_3 : Int) := of_decide_eq_true (by first | (with_reducible assumption) | assumption)
                          have q166 : x6_3 < (t163.length : Int) := of_decide_eq_true (by first | (with_reducible assumption) | assumption)
                          obtain ⟨ad166, e166, hx166_0⟩ := Kd.at_bool (Kd.R_reads' HO_5.out).2.2 x6_3 p166 q166
                          (try rw [← Nbq20.out] at hx166_0)
                          cases e166
                          replace p166 := eq_true p166
                          replace q166 := eq_true q166
                          go_wp2
                          go_roundg k3
                          case measure => have := HJ1.out; have := HJ12.out; have := HK3.out; omega
                          case rel => exact ⟨(wrap64 (x6_3 + 1)), (by first | rfl | (simp; done) | (simp [*]; done)), H', ⟨by have := HJ1.out; have := HJ12.out; have := HK3.out; omega⟩, ⟨by (with_reducible repeat (first | apply Kd.R_alloc | apply Kd.R_drewN | apply Kd.R_drew)); exact HO_5.out⟩, ⟨by repeat (first | (with_reducible first | exact HB.out | apply below_alloc | apply pw_below_drewN | apply below_drew1) | exact HB.out)⟩⟩
                        · replace c21 := Bool.eq_false_iff.mpr c21
                          subst c21
                          have H1 : (if (bt a0 x6_3) = x4_12 then (if 1 ≤ x6_3 then (if x6_3 ≤ (a0.size : Int) then ((incipitref09_gap.f k3 (a0.extract 1 (x6_3 : Int).toNat)).bind fun t167 => (if t167 = true then (some ((⟨#[]⟩ : ByteArray), 0)) else ((incipitref05_Unescape.f k3 (a0.extract 1 (x6_3 : Int).toNat)).bind fun t168 => (some (t168, wrap64 (x6_3 + 1)))))) else (none)) else (none)) else (if 0 < (a0.size : Int) then (if (bt a0 0) = 40 then (if (bt a0 x6_3) = 40 then (some ((⟨#[]⟩ : ByteArray), 0)) else (incipitref09_Title.l0 k3 a0 x4_12 t163 (wrap64 (x6_3 + 1)))) else (incipitref09_Title.l0 k3 a0 x4_12 t163 (wrap64 (x6_3 + 1)))) else (none))) = some (r1, r2) := by rw [if_neg (show ¬ (false = true) by decide)] at H; exact H
                          clear H
                          have H := H1
                          clear H1
                          by_cases c24 : (bt a0 x6_3) = x4_12
                          · rw [if_pos c24] at H
                            have c24b0 : ((bt a0 x6_3) == x4_12) = true := beq_iff_eq.mpr c24
                            have c24b1 : ((bt a0 x6_3) != x4_12) = false := bne_eq_false_iff_eq.mpr c24
                            clear c24
                            by_cases c25 : 1 ≤ x6_3
                            · rw [if_pos c25] at H
                              have c25b0 := eq_true c25
                              have c25b1 : decide (1 ≤ x6_3) = true := decide_eq_true c25
                              clear c25
                              by_cases c26 : x6_3 ≤ (a0.size : Int)
                              · rw [if_pos c26] at H
                                have c26b0 := eq_true c26
                                have c26b1 : decide (x6_3 ≤ (a0.size : Int)) = true := decide_eq_true c26
                                clear c26
                                replace H := Option.bind_eq_some_iff.mp H
                                obtain ⟨t167, A270, H⟩ := H
                                replace H : (if t167 = true then (some ((⟨#[]⟩ : ByteArray), 0)) else ((incipitref05_Unescape.f k3 (a0.extract 1 (x6_3 : Int).toNat)).bind fun t168 => (some (t168, wrap64 (x6_3 + 1))))) = some (r1, r2) := H
                                have A27 := Aside0.mk A270
                                clear A270
                                by_cases c28 : t167 = true
                                · subst c28
                                  have H1 : (some ((⟨#[]⟩ : ByteArray), 0)) = some (r1, r2) := by rw [if_pos rfl] at H; exact H
                                  clear H
                                  have H := H1
                                  clear H1
                                  simp only [Option.some.injEq, Prod.mk.injEq] at H
                                  obtain ⟨rfl, rfl⟩ := H
                                  obtain ⟨Ao29, co29, eo29⟩ := Kd.R_slice HO_5.out
                                  subst eo29
                                  have p166 : 0 ≤ (x6_3 : Int) := of_decide_eq_true (by first | (with_reducible assumption) | assumption)
                                  have q166 : x6_3 < (t163.length : Int) := of_decide_eq_true (by first | (with_reducible assumption) | assumption)
                                  obtain ⟨ad166, e166, hx166_0⟩ := Kd.at_bool (Kd.R_reads' HO_5.out).2.2 x6_3 p166 q166
                                  (try rw [← Nbq20.out] at hx166_0)
                                  cases e166
                                  replace p166 := eq_true p166
                                  replace q166 := eq_true q166
                                  have p23 : 0 ≤ (x6_3 : Int) := of_decide_eq_true (by first | (with_reducible assumption) | assumption)
                                  have q23 : x6_3 < (a0.size : Int) := of_decide_eq_true (by first | (with_reducible assumption) | assumption)
                                  have hx23 := bt_at a0 x6_3
                                  replace p23 := eq_true p23
                                  replace q23 := eq_true q23
                                  go_wp2_with (first | ((with_reducible refine gate_callee (f := 32) rfl ?_); refine goesL_ (some 48) rfl rfl Tryz.func32 (by kernel_rfl) rfl #[.string (a0.extract 1 (x6_3 : Int).toNat)] rfl (by (try simp only [List.map_toArray, List.map_cons, List.map_nil]); first | done | rfl | (simp only [List.length_drop, List.length_take]; rfl)) ?_; (with_reducible refine (incipitref09_gap.calls k3 (a0.extract 1 (x6_3 : Int).toNat) true _ A27.out).mono ?_); rintro e w' ⟨rfl, ⟨nd, rfl⟩⟩; refine ⟨_, rfl, ?_⟩))
                                  go_ret2
                                  exact ⟨by first | rfl | exact retNe _ | (simp [errW_none, errW_some] <;> rfl) | (simp [*, errW_none, errW_some] <;> rfl), by repeat (first | (with_reducible first | exact HB.out | apply below_alloc | apply pw_below_drewN | apply below_drew1) | exact HB.out)⟩
                                · replace c28 := Bool.eq_false_iff.mpr c28
                                  subst c28
                                  have H1 : ((incipitref05_Unescape.f k3 (a0.extract 1 (x6_3 : Int).toNat)).bind fun t168 => (some (t168, wrap64 (x6_3 + 1)))) = some (r1, r2) := by rw [if_neg (show ¬ (false = true) by decide)] at H; exact H
                                  clear H
                                  have H := H1
                                  clear H1
                                  have c30b0 := eq_true (of_decide_eq_true (by first | (with_reducible assumption) | assumption) : 1 ≤ x6_3)
                                  have c31b0 := eq_true (of_decide_eq_true (by first | (with_reducible assumption) | assumption) : x6_3 ≤ (a0.size : Int))
                                  replace H := Option.bind_eq_some_iff.mp H
                                  obtain ⟨t168, A320, H⟩ := H
                                  replace H : (some (t168, wrap64 (x6_3 + 1))) = some (r1, r2) := H
                                  have A32 := Aside0.mk A320
                                  clear A320
                                  simp only [Option.some.injEq, Prod.mk.injEq] at H
                                  obtain ⟨rfl, rfl⟩ := H
                                  obtain ⟨Ao33, co33, eo33⟩ := Kd.R_slice HO_5.out
                                  subst eo33
                                  have p166 : 0 ≤ (x6_3 : Int) := of_decide_eq_true (by first | (with_reducible assumption) | assumption)
                                  have q166 : x6_3 < (t163.length : Int) := of_decide_eq_true (by first | (with_reducible assumption) | assumption)
                                  obtain ⟨ad166, e166, hx166_0⟩ := Kd.at_bool (Kd.R_reads' HO_5.out).2.2 x6_3 p166 q166
                                  (try rw [← Nbq20.out] at hx166_0)
                                  cases e166
                                  replace p166 := eq_true p166
                                  replace q166 := eq_true q166
                                  have p23 : 0 ≤ (x6_3 : Int) := of_decide_eq_true (by first | (with_reducible assumption) | assumption)
                                  have q23 : x6_3 < (a0.size : Int) := of_decide_eq_true (by first | (with_reducible assumption) | assumption)
                                  have hx23 := bt_at a0 x6_3
                                  replace p23 := eq_true p23
                                  replace q23 := eq_true q23
                                  go_wp2_with (first | ((with_reducible refine gate_callee (f := 32) rfl ?_); refine goesL_ (some 48) rfl rfl Tryz.func32 (by kernel_rfl) rfl #[.string (a0.extract 1 (x6_3 : Int).toNat)] rfl (by (try simp only [List.map_toArray, List.map_cons, List.map_nil]); first | done | rfl | (simp only [List.length_drop, List.length_take]; rfl)) ?_; (with_reducible refine (incipitref09_gap.calls k3 (a0.extract 1 (x6_3 : Int).toNat) false _ A27.out).mono ?_); rintro e w' ⟨rfl, ⟨nd, rfl⟩⟩; refine ⟨_, rfl, ?_⟩) | ((with_reducible refine gate_callee (f := 28) rfl ?_); refine goesL_ (some 52) rfl rfl Tryz.func28 (by kernel_rfl) rfl #[.string (a0.extract 1 (x6_3 : Int).toNat)] rfl (by (try simp only [List.map_toArray, List.map_cons, List.map_nil]); first | done | rfl | (simp only [List.length_drop, List.length_take]; rfl)) ?_; (with_reducible refine (incipitref05_Unescape.calls k3 (a0.extract 1 (x6_3 : Int).toNat) t168 _ A32.out).mono ?_); rintro e w34 ⟨rfl, hb⟩; refine ⟨_, rfl, ?_⟩; have n0_ := Aside0.mk (Kd.R_below (by (with_reducible repeat (first | apply Kd.R_alloc | apply Kd.R_drewN | apply Kd.R_drew)); exact HO_5.out) hb); have n1_ := Aside0.mk (below_step (by repeat (first | (with_reducible first | exact HB.out | apply below_alloc | apply pw_below_drewN | apply below_drew1) | exact HB.out)) hb); clear HO_5; clear HB; have HO_5 := n0_; have HB := n1_; clear n0_ n1_; (try clear hb); (try clear hb2); (try clear hk); (try clear hi)))
                                  go_ret2
                                  exact ⟨by first | rfl | exact retNe _ | (simp [errW_none, errW_some] <;> rfl) | (simp [*, errW_none, errW_some] <;> rfl), by repeat (first | (with_reducible first | exact HB.out | apply below_alloc | apply pw_below_drewN | apply below_drew1) | exact HB.out)⟩
                              · rw [if_neg c26] at H
                                exact absurd H (by simp)
                            · rw [if_neg c25] at H
                              exact absurd H (by simp)
                          · rw [if_neg c24] at H
                            have c24b0 : ((bt a0 x6_3) == x4_12) = false := beq_eq_false_iff_ne.mpr c24
                            have c24b1 : ((bt a0 x6_3) != x4_12) = true := bne_iff_ne.mpr c24
                            by_cases c35 : 0 < (a0.size : Int)
                            · rw [if_pos c35] at H
                              have c35b0 : decide (0 < (a0.size : Int)) = true := decide_eq_true c35
                              have c35b1 : decide (0 < a0.size) = true := decide_eq_true (by omega)
                              clear c35
                              by_cases c37 : (bt a0 0) = 40
                              · rw [if_pos c37] at H
                                have c37b0 : ((bt a0 0) == 40) = true := beq_iff_eq.mpr c37
                                have c37b1 : ((bt a0 0) != 40) = false := bne_eq_false_iff_eq.mpr c37
                                clear c37
                                by_cases c39 : (bt a0 x6_3) = 40
                                · rw [if_pos c39] at H
                                  have c39b0 : ((bt a0 x6_3) == 40) = true := beq_iff_eq.mpr c39
                                  have c39b1 : ((bt a0 x6_3) != 40) = false := bne_eq_false_iff_eq.mpr c39
                                  clear c39
                                  simp only [Option.some.injEq, Prod.mk.injEq] at H
                                  obtain ⟨rfl, rfl⟩ := H
                                  obtain ⟨Ao40, co40, eo40⟩ := Kd.R_slice HO_5.out
                                  subst eo40
                                  have p166 : 0 ≤ (x6_3 : Int) := of_decide_eq_true (by first | (with_reducible assumption) | assumption)
                                  have q166 : x6_3 < (t163.length : Int) := of_decide_eq_true (by first | (with_reducible assumption) | assumption)
                                  obtain ⟨ad166, e166, hx166_0⟩ := Kd.at_bool (Kd.R_reads' HO_5.out).2.2 x6_3 p166 q166
                                  (try rw [← Nbq20.out] at hx166_0)
                                  cases e166
                                  replace p166 := eq_true p166
                                  replace q166 := eq_true q166
                                  have p23 : 0 ≤ (x6_3 : Int) := of_decide_eq_true (by first | (with_reducible assumption) | assumption)
                                  have q23 : x6_3 < (a0.size : Int) := of_decide_eq_true (by first | (with_reducible assumption) | assumption)
                                  have hx23 := bt_at a0 x6_3
                                  replace p23 := eq_true p23
                                  replace q23 := eq_true q23
                                  have p36 : 0 ≤ (0 : Int) := (by omega)
                                  have q36 : 0 < a0.size := (by have : (0 : Int) < (a0.size : Int) := of_decide_eq_true (by first | (with_reducible assumption) | assumption); omega)
                                  have hx36 : ∀ h : 0 < a0.size, ((a0[0]'h).toNat : Int) = bt a0 0 := bt_at a0 0
                                  clear p36
                                  have qi36 : (0 < (a0.size : Int)) = True := eq_true (of_decide_eq_true (by first | (with_reducible assumption) | assumption))
                                  replace q36 := eq_true q36
                                  have p38 : 0 ≤ (x6_3 : Int) := of_decide_eq_true (by first | (with_reducible assumption) | assumption)
                                  have q38 : x6_3 < (a0.size : Int) := of_decide_eq_true (by first | (with_reducible assumption) | assumption)
                                  have hx38 := bt_at a0 x6_3
                                  replace p38 := eq_true p38
                                  replace q38 := eq_true q38
                                  go_wp2
                                  go_ret2
                                  exact ⟨by first | rfl | exact retNe _ | (simp [errW_none, errW_some] <;> rfl) | (simp [*, errW_none, errW_some] <;> rfl), by repeat (first | (with_reducible first | exact HB.out | apply below_alloc | apply pw_below_drewN | apply below_drew1) | exact HB.out)⟩
                                · rw [if_neg c39] at H
                                  have c39b0 : ((bt a0 x6_3) == 40) = false := beq_eq_false_iff_ne.mpr c39
                                  have c39b1 : ((bt a0 x6_3) != 40) = true := bne_iff_ne.mpr c39
                                  have H' := Aside0.mk H
                                  clear H
                                  obtain ⟨Ao41, co41, eo41⟩ := Kd.R_slice HO_5.out
                                  subst eo41
                                  have p166 : 0 ≤ (x6_3 : Int) := of_decide_eq_true (by first | (with_reducible assumption) | assumption)
                                  have q166 : x6_3 < (t163.length : Int) := of_decide_eq_true (by first | (with_reducible assumption) | assumption)
                                  obtain ⟨ad166, e166, hx166_0⟩ := Kd.at_bool (Kd.R_reads' HO_5.out).2.2 x6_3 p166 q166
                                  (try rw [← Nbq20.out] at hx166_0)
                                  cases e166
                                  replace p166 := eq_true p166
                                  replace q166 := eq_true q166
                                  have p23 : 0 ≤ (x6_3 : Int) := of_decide_eq_true (by first | (with_reducible assumption) | assumption)
                                  have q23 : x6_3 < (a0.size : Int) := of_decide_eq_true (by first | (with_reducible assumption) | assumption)
                                  have hx23 := bt_at a0 x6_3
                                  replace p23 := eq_true p23
                                  replace q23 := eq_true q23
                                  have p36 : 0 ≤ (0 : Int) := (by omega)
                                  have q36 : 0 < a0.size := (by have : (0 : Int) < (a0.size : Int) := of_decide_eq_true (by first | (with_reducible assumption) | assumption); omega)
                                  have hx36 : ∀ h : 0 < a0.size, ((a0[0]'h).toNat : Int) = bt a0 0 := bt_at a0 0
                                  clear p36
                                  have qi36 : (0 < (a0.size : Int)) = True := eq_true (of_decide_eq_true (by first | (with_reducible assumption) | assumption))
                                  replace q36 := eq_true q36
                                  have p38 : 0 ≤ (x6_3 : Int) := of_decide_eq_true (by first | (with_reducible assumption) | assumption)
                                  have q38 : x6_3 < (a0.size : Int) := of_decide_eq_true (by first | (with_reducible assumption) | assumption)
                                  have hx38 := bt_at a0 x6_3
                                  replace p38 := eq_true p38
                                  replace q38 := eq_true q38
                                  go_wp2
                                  go_roundg k3
                                  case measure => have := HJ1.out; have := HJ12.out; have := HK3.out; omega
                                  case rel => exact ⟨(wrap64 (x6_3 + 1)), (by first | rfl | (simp; done) | (simp [*]; done)), H', ⟨by have := HJ1.out; have := HJ12.out; have := HK3.out; omega⟩, ⟨by (with_reducible repeat (first | apply Kd.R_alloc | apply Kd.R_drewN | apply Kd.R_drew)); exact HO_5.out⟩, ⟨by repeat (first | (with_reducible first | exact HB.out | apply below_alloc | apply pw_below_drewN | apply below_drew1) | exact HB.out)⟩⟩
                              · rw [if_neg c37] at H
                                have c37b0 : ((bt a0 0) == 40) = false := beq_eq_false_iff_ne.mpr c37
                                have c37b1 : ((bt a0 0) != 40) = true := bne_iff_ne.mpr c37
                                have H' := Aside0.mk H
                                clear H
                                obtain ⟨Ao42, co42, eo42⟩ := Kd.R_slice HO_5.out
                                subst eo42
                                have p166 : 0 ≤ (x6_3 : Int) := of_decide_eq_true (by first | (with_reducible assumption) | assumption)
                                have q166 : x6_3 < (t163.length : Int) := of_decide_eq_true (by first | (with_reducible assumption) | assumption)
                                obtain ⟨ad166, e166, hx166_0⟩ := Kd.at_bool (Kd.R_reads' HO_5.out).2.2 x6_3 p166 q166
                                (try rw [← Nbq20.out] at hx166_0)
                                cases e166
                                replace p166 := eq_true p166
                                replace q166 := eq_true q166
                                have p23 : 0 ≤ (x6_3 : Int) := of_decide_eq_true (by first | (with_reducible assumption) | assumption)
                                have q23 : x6_3 < (a0.size : Int) := of_decide_eq_true (by first | (with_reducible assumption) | assumption)
                                have hx23 := bt_at a0 x6_3
                                replace p23 := eq_true p23
                                replace q23 := eq_true q23
                                have p36 : 0 ≤ (0 : Int) := (by omega)
                                have q36 : 0 < a0.size := (by have : (0 : Int) < (a0.size : Int) := of_decide_eq_true (by first | (with_reducible assumption) | assumption); omega)
                                have hx36 : ∀ h : 0 < a0.size, ((a0[0]'h).toNat : Int) = bt a0 0 := bt_at a0 0
                                clear p36
                                have qi36 : (0 < (a0.size : Int)) = True := eq_true (of_decide_eq_true (by first | (with_reducible assumption) | assumption))
                                replace q36 := eq_true q36
                                go_wp2
                                go_roundg k3
                                case measure => have := HJ1.out; have := HJ12.out; have := HK3.out; omega
                                case rel => exact ⟨(wrap64 (x6_3 + 1)), (by first | rfl | (simp; done) | (simp [*]; done)), H', ⟨by have := HJ1.out; have := HJ12.out; have := HK3.out; omega⟩, ⟨by (with_reducible repeat (first | apply Kd.R_alloc | apply Kd.R_drewN | apply Kd.R_drew)); exact HO_5.out⟩, ⟨by repeat (first | (with_reducible first | exact HB.out | apply below_alloc | apply pw_below_drewN | apply below_drew1) | exact HB.out)⟩⟩
                            · rw [if_neg c35] at H
                              exact absurd H (by simp)
                      · rw [if_neg c19] at H
                        exact absurd H (by simp)
                    · rw [if_neg c18] at H
                      exact absurd H (by simp)
                  · rw [if_neg c17] at H
                    have c17b0 : decide (x6_3 < (a0.size : Int)) = false := decide_eq_false c17
                    clear c17
                    simp only [Option.some.injEq, Prod.mk.injEq] at H
                    obtain ⟨rfl, rfl⟩ := H
                    go_wp2
                    go_ret2
                    exact ⟨by first | rfl | exact retNe _ | (simp [errW_none, errW_some] <;> rfl) | (simp [*, errW_none, errW_some] <;> rfl), by repeat (first | (with_reducible first | exact HB.out | apply below_alloc | apply pw_below_drewN | apply below_drew1) | exact HB.out)⟩
        · rw [if_neg c11] at H
          exact absurd H (by simp)

end Go.Proofs.YtjobchgncdgfaaaGreatDoor.PA

namespace Go.Proofs.YtjobchgncdgfaaaGreatDoor.Pure
open Go.RowKit Go.Proofs.YtjobchgncdgfaaaGreatDoorW.PrintWords Go.Proofs.YtjobchgncdgfaaaGreatDoorW.PrintMore Go.Proofs.YtjobchgncdgfaaaGreatDoor.Pl Go.Proofs.YtjobchgncdgfaaaGreatDoor.PA

theorem rwhite1 (x : UInt8) : incipitref09_white.f (x.toNat : Int) = some (wsp x) := by
  have h : ∀ y : Fin 256, incipitref09_white.f (((UInt8.ofNat y.val).toNat : Nat) : Int) = some (wsp (UInt8.ofNat y.val)) := by decide +kernel
  have := h ⟨x.toNat, x.toNat_lt⟩
  rwa [show UInt8.ofNat x.toNat = x from UInt8.ofNat_toNat] at this
theorem bt_mid (p r : List UInt8) (x : UInt8) : bt (B (p ++ x :: r)) (p.length : Int) = (x.toNat : Int) := by
  rw [B_bt (p ++ x :: r) p.length (by simp)]
  simp
theorem winc {i : Nat} (h : i ≤ 1048576) : wrap64 ((i : Int) + 1) = ((i + 1 : Nat) : Int) := w64 (by omega) (by omega)
theorem lt_sz (p r : List UInt8) (x : UInt8) : ((p.length : Nat) : Int) < ((B (p ++ x :: r)).size : Int) := by rw [B_size]; simp; omega
theorem nlt_sz (p : List UInt8) : ¬ ((p.length : Nat) : Int) < ((B p).size : Int) := by rw [B_size]; omega
theorem snoc (p r : List UInt8) (x : UInt8) : p ++ x :: r = (p ++ [x]) ++ r := by simp
theorem snoc_len (p : List UInt8) (x : UInt8) : (p ++ [x]).length = p.length + 1 := by simp
theorem rwhite_l : ∀ (r p : List UInt8), p.length + r.length ≤ 1048576 → Ev (fun k => incipitref09_White.l0 k (B (p ++ r)) (p.length : Int)) ((p.length + wht r : Nat) : Int)
  | [], p, _ => by
    refine Ev.step (f := fun _ => some ((p.length : Nat) : Int)) (fun k => ?_) (Ev.now _)
    simp only [incipitref09_White.l0]
    rw [List.append_nil, if_neg (nlt_sz p)]
  | x :: r, p, h => by
    rw [List.length_cons] at h
    rw [wht_cons]
    by_cases hw : wsp x = true
    · have ih := rwhite_l r (p ++ [x]) (by rw [snoc_len]; omega)
      rw [← snoc, snoc_len] at ih
      rw [if_pos hw, show p.length + (wht r + 1) = p.length + 1 + wht r by omega]
      refine Ev.step (fun k => ?_) ih
      simp only [incipitref09_White.l0]
      rw [if_pos (lt_sz p r x), if_pos (nn _), bt_mid, rwhite1, Option.bind_some, if_pos hw, winc (by omega)]
    · rw [if_neg hw]
      refine Ev.step (f := fun _ => some ((p.length : Nat) : Int)) (fun k => ?_) (Ev.now _)
      simp only [incipitref09_White.l0]
      rw [if_pos (lt_sz p r x), if_pos (nn _), bt_mid, rwhite1, Option.bind_some, if_neg hw]
theorem rwhite_ev (s : List UInt8) (h : s.length ≤ 1048576) : Ev (fun k => incipitref09_White.f k (B s)) ((wht s : Nat) : Int) := by
  have := rwhite_l s [] (by simpa using h)
  rw [List.nil_append, List.length_nil, Nat.zero_add] at this
  exact this
/-- Which bytes of a text are escaped. -/
def mk : List UInt8 → List Bool
  | [] => []
  | [_] => [false]
  | x :: y :: t => if x = 92 ∧ sgn y = true then false :: true :: mk t else false :: mk (y :: t)
theorem mk_esc (x y : UInt8) (t : List UInt8) (h : x = 92) (h2 : sgn y = true) : mk (x :: y :: t) = false :: true :: mk t := by rw [mk, if_pos ⟨h, h2⟩]
theorem mk_one (x : UInt8) (t : List UInt8) (h : x = 92 → ∀ y u, t = y :: u → sgn y = false) : mk (x :: t) = false :: mk t := by
  cases t with
  | nil => rfl
  | cons y u =>
    rw [mk, if_neg]
    rintro ⟨h1, h2⟩
    rw [h h1 y u rfl] at h2
    cases h2
theorem mk_len : ∀ s : List UInt8, (mk s).length = s.length
  | [] => rfl
  | [_] => rfl
  | x :: y :: t => by
    unfold mk
    split
    · simp [mk_len t]
    · simp [mk_len (y :: t)]
theorem set_mid (P : List Bool) (n : Nat) : (P ++ List.replicate (n + 2) false).set (P.length + 1) true = P ++ [false, true] ++ List.replicate n false := by
  rw [List.set_append_right _ _ (by omega), show P.length + 1 - P.length = 1 by omega, List.replicate_succ, List.replicate_succ]
  simp
theorem marks_l : ∀ (r p : List UInt8) (P : List Bool), P.length = p.length → p.length + r.length ≤ 1048576 →
    Ev (fun k => incipitref09_marks.l0 k (B (p ++ r)) (P ++ List.replicate r.length false) (p.length : Int)) (P ++ mk r)
  | [], p, P, hP, h => by
    refine Ev.step (f := fun _ => some (P ++ [])) (fun k => ?_) (Ev.now _)
    simp only [incipitref09_marks.l0]
    rw [List.append_nil, winc (by simp at h; omega), if_neg (by rw [B_size]; omega)]
    rfl
  | [x], p, P, hP, h => by
    refine Ev.step (f := fun _ => some (P ++ [false])) (fun k => ?_) (Ev.now _)
    simp only [incipitref09_marks.l0]
    rw [winc (by simp at h; omega), if_neg (by rw [B_size]; simp)]
    rfl
  | x :: y :: t, p, P, hP, h => by
    simp only [List.length_cons] at h
    have hlt : (((p.length + 1 : Nat)) : Int) < ((B (p ++ x :: y :: t)).size : Int) := by rw [B_size]; simp; omega
    have b1 : bt (B (p ++ x :: y :: t)) (((p.length + 1 : Nat)) : Int) = (y.toNat : Int) := by
      have := bt_mid (p ++ [x]) t y
      rw [← snoc, snoc_len] at this
      exact this
    have c92 : ((x.toNat : Int) = 92) ↔ x = 92 := u8_eq _ 92 (by omega)
    have hone : (¬ (x = 92 ∧ sgn y = true)) → Ev (fun k => incipitref09_marks.l0 k (B (p ++ x :: y :: t)) (P ++ List.replicate (x :: y :: t).length false) (((p.length + 1 : Nat)) : Int)) (P ++ mk (x :: y :: t)) := by
      intro hc
      have ih := marks_l (y :: t) (p ++ [x]) (P ++ [false]) (by simp [hP]) (by rw [snoc_len, List.length_cons]; omega)
      rw [← snoc, snoc_len, List.append_assoc] at ih
      have hm : mk (x :: y :: t) = false :: mk (y :: t) := mk_one x (y :: t) (by
        rintro e y' u' e2
        cases e2
        cases hs : sgn y with
        | false => rfl
        | true => exact absurd ⟨e, hs⟩ hc)
      rw [hm, show P ++ false :: mk (y :: t) = P ++ [false] ++ mk (y :: t) by simp, List.length_cons, List.replicate_succ]
      exact ih
    by_cases h1 : x = 92
    · cases hs : sgn y with
      | true =>
        have ih := marks_l t (p ++ [x] ++ [y]) (P ++ [false, true]) (by simp [hP]) (by rw [snoc_len, snoc_len]; omega)
        rw [← snoc, ← snoc, snoc_len, snoc_len] at ih
        rw [mk_esc x y t h1 hs, show P ++ false :: true :: mk t = P ++ [false, true] ++ mk t by simp]
        refine Ev.step (fun k => ?_) ih
        simp only [incipitref09_marks.l0]
        rw [winc (by omega), if_pos hlt, if_pos (nn _), if_pos (lt_sz p _ x), bt_mid, if_pos (c92.2 h1), if_pos (nn _), b1, rsign_eq, Option.bind_some, hs, if_pos (by first | trivial | rfl), if_pos (by simp [hP]; omega), winc (by omega), Int.toNat_natCast]
        have := set_mid P t.length
        rw [hP] at this
        simp only [List.length_cons]
        rw [this]
      | false =>
        refine Ev.step (fun k => ?_) (hone (fun e => by rw [hs] at e; cases e.2))
        simp only [incipitref09_marks.l0]
        rw [winc (by omega), if_pos hlt, if_pos (nn _), if_pos (lt_sz p _ x), bt_mid, if_pos (c92.2 h1), if_pos (nn _), b1, rsign_eq, Option.bind_some, hs, if_neg (by decide)]
    · refine Ev.step (fun k => ?_) (hone (fun e => h1 e.1))
      simp only [incipitref09_marks.l0]
      rw [winc (by omega), if_pos hlt, if_pos (nn _), if_pos (lt_sz p _ x), bt_mid, if_neg (fun e => h1 (c92.1 e))]
theorem marks_ev (s : List UInt8) (h : s.length ≤ 1048576) : Ev (fun k => incipitref09_marks.f k (B s)) (mk s) := by
  have := marks_l s [] [] rfl (by simpa using h)
  rw [List.nil_append, List.nil_append, List.nil_append, List.length_nil] at this
  unfold incipitref09_marks.f
  refine Ev.congr (fun k => ?_) this
  rw [if_pos (nn _), Int.toNat_natCast, B_size, if_pos (by omega)]
  rfl
theorem rd_mid (P : List Bool) (b : Bool) (t : List Bool) (i : Nat) (h : P.length = i) : rdOf false (P ++ b :: t) (i : Int) = b := by
  unfold rdOf
  rw [Int.toNat_natCast, List.getD_eq_getElem?_getD, ← h]
  simp
/-! #### Label -/
theorem rlabel_l : ∀ (n : Nat) (r q : List UInt8) (Q : List Bool), r.length ≤ n → Q.length = q.length → (91 :: (q ++ r)).length ≤ 2000 → mk (91 :: (q ++ r)) = (false :: Q) ++ mk r → eachL pLab (q ++ r) = q.length + eachL pLab r →
    Ev (fun k => incipitref09_Label.l0 k (B (91 :: (q ++ r))) (mk (91 :: (q ++ r))) (((q.length + 1 : Nat)) : Int)) (B (lab (91 :: (q ++ r))).1, ((lab (91 :: (q ++ r))).2 : Int))
  | _, [], q, Q, _, hQ, hl, hM, hE => by
    have e : lab (91 :: (q ++ [])) = ([], 0) := by rw [lab_cons, if_pos rfl, hE]; simp [eachL]
    rw [e]
    refine Ev.step (f := fun _ => some (B [], 0)) (fun k => ?_) (Ev.now _)
    simp only [incipitref09_Label.l0]
    rw [if_neg (by rw [B_size]; simp)]
    rfl
  | 0, x :: t, q, Q, hn, hQ, hl, hM, hE => by simp at hn
  | n + 1, x :: t, q, Q, hn, hQ, hl, hM, hE => by
    simp only [List.length_cons] at hn
    have hl2 : q.length + t.length + 2 ≤ 2000 := by simp at hl; omega
    have hlt : (((q.length + 1 : Nat)) : Int) < ((B (91 :: (q ++ x :: t))).size : Int) := by rw [B_size]; simp; omega
    have hltm : (((q.length + 1 : Nat)) : Int) < ((mk (91 :: (q ++ x :: t))).length : Int) := by rw [mk_len]; simp; omega
    have hb : bt (B (91 :: (q ++ x :: t))) (((q.length + 1 : Nat)) : Int) = (x.toNat : Int) := bt_mid (91 :: q) t x
    by_cases he : x = 92 ∧ ∃ y u, t = y :: u ∧ sgn y = true
    · obtain ⟨h92, y, u, rfl, hs⟩ := he
      rw [List.length_cons] at hn hl2
      rw [mk_esc x y u h92 hs] at hM
      rw [each_esc pLab x y u h92 hs] at hE
      have ih := rlabel_l n u (q ++ [x] ++ [y]) (Q ++ [false, true]) (by omega) (by simp [hQ]) (by simp; omega) (by rw [← snoc, ← snoc, hM]; simp) (by rw [← snoc, ← snoc, hE]; simp; omega)
      rw [← snoc, ← snoc, snoc_len, snoc_len] at ih
      have hb1 : bt (B (91 :: (q ++ x :: y :: u))) (((q.length + 1 + 1 : Nat)) : Int) = (y.toNat : Int) := by
        have := bt_mid (91 :: q ++ [x]) u y
        simpa using this
      have hr0 : rdOf false (mk (91 :: (q ++ x :: y :: u))) (((q.length + 1 : Nat)) : Int) = false := by rw [hM]; exact rd_mid (false :: Q) false _ _ (by simp [hQ])
      have hr1 : rdOf false (mk (91 :: (q ++ x :: y :: u))) (((q.length + 1 + 1 : Nat)) : Int) = true := by rw [hM, show (false :: Q) ++ false :: true :: mk u = (false :: Q ++ [false]) ++ true :: mk u by simp]; exact rd_mid _ true _ _ (by simp [hQ])
      refine Ev.step (f := fun k => incipitref09_Label.l0 k (B (91 :: (q ++ x :: y :: u))) (mk (91 :: (q ++ x :: y :: u))) (((q.length + 1 + 1 : Nat)) : Int)) (fun k => ?_) (Ev.step (fun k => ?_) ih)
      · simp only [incipitref09_Label.l0]
        rw [if_pos hlt, if_pos (nn _), if_pos hltm, hr0, if_neg (by decide), hb, if_neg (by rw [h92]; decide), if_neg (by rw [h92]; decide), winc (by omega)]
      · simp only [incipitref09_Label.l0]
        rw [if_pos (by rw [B_size]; simp; omega), if_pos (nn _), if_pos (by rw [mk_len]; simp; omega), hr1, if_pos (by first | trivial | rfl), winc (by omega)]
    · have h3 : x = 92 → ∀ y u, t = y :: u → sgn y = false := by
        intro e y u e2
        cases hs : sgn y with
        | false => rfl
        | true => exact absurd ⟨e, y, u, e2, hs⟩ he
      rw [mk_one x t h3] at hM
      have hr0 : rdOf false (mk (91 :: (q ++ x :: t))) (((q.length + 1 : Nat)) : Int) = false := by rw [hM]; exact rd_mid (false :: Q) false _ _ (by simp [hQ])
      have c91 : ((x.toNat : Int) = 91) ↔ x = 91 := u8_eq _ 91 (by omega)
      have c93 : ((x.toNat : Int) = 93) ↔ x = 93 := u8_eq _ 93 (by omega)
      have hE1 := each_one pLab x t h3
      by_cases hp : pLab x = true
      · rw [hE1, if_pos hp, Nat.add_zero] at hE
        have hl4 := lab_at q t x hE
        by_cases h91 : x = 91
        · rw [if_pos (.inl h91)] at hl4
          rw [hl4]
          refine Ev.step (f := fun _ => some (B [], 0)) (fun k => ?_) (Ev.now _)
          simp only [incipitref09_Label.l0]
          rw [if_pos hlt, if_pos (nn _), if_pos hltm, hr0, if_neg (by decide), hb, if_pos (c91.2 h91)]
          rfl
        · have h93 : x = 93 := by
            unfold pLab at hp
            simp only [Bool.or_eq_true, decide_eq_true_eq] at hp
            exact hp.resolve_left h91
          by_cases hbig : 999 < q.length
          · rw [if_pos (.inr (.inl hbig))] at hl4
            rw [hl4]
            refine Ev.step (f := fun _ => some (B [], 0)) (fun k => ?_) (Ev.now _)
            simp only [incipitref09_Label.l0]
            rw [if_pos hlt, if_pos (nn _), if_pos hltm, hr0, if_neg (by decide), hb, if_neg (fun e => h91 (c91.1 e)), if_pos (c93.2 h93), if_pos (by omega)]
            rfl
          · have hx : (B (91 :: (q ++ x :: t))).extract 1 ((((q.length + 1 : Nat)) : Int)).toNat = B q := by
              rw [Int.toNat_natCast, B_extract, List.drop_succ_cons, List.drop_zero, Nat.add_sub_cancel, List.take_left' rfl]
            have hw := rwhite_ev q (by omega)
            have hwl := wht_le q
            refine Ev.step (f := fun k => (incipitref09_White.f k (B q)).bind _) (fun k => by
              simp only [incipitref09_Label.l0]
              rw [if_pos hlt, if_pos (nn _), if_pos hltm, hr0, if_neg (by decide), hb, if_neg (fun e => h91 (c91.1 e)), if_pos (c93.2 h93), if_neg (by omega), if_pos (by omega), if_pos (by rw [B_size]; simp; omega), hx]) (Ev.bind hw ?_)
            have hwr : wrap64 ((((q.length + 1 : Nat)) : Int) - 1) = (q.length : Int) := by rw [w64 (by omega) (by omega)]; omega
            by_cases hwq : wht q = q.length
            · rw [if_pos (.inr (.inr hwq))] at hl4
              rw [hl4]
              refine Ev.congr (f := fun _ => some (B [], 0)) (fun k => ?_) (Ev.now _)
              rw [hwr, if_pos (by omega)]
              rfl
            · rw [if_neg (by rintro (e | e | e); exact h91 e; exact hbig e; exact hwq e)] at hl4
              rw [hl4]
              refine Ev.congr (f := fun _ => some (B q, ((q.length + 2 : Nat) : Int))) (fun k => ?_) (Ev.now _)
              rw [hwr, if_neg (by omega), winc (by omega)]
      · rw [hE1, if_neg hp] at hE
        have ih := rlabel_l n t (q ++ [x]) (Q ++ [false]) (by omega) (by simp [hQ]) (by simp; omega) (by rw [← snoc, hM]; simp) (by rw [← snoc, hE]; simp; omega)
        rw [← snoc, snoc_len] at ih
        have hne : x ≠ 91 ∧ x ≠ 93 := (lab_plain x).1 (by simpa using hp)
        refine Ev.step (fun k => ?_) ih
        simp only [incipitref09_Label.l0]
        rw [if_pos hlt, if_pos (nn _), if_pos hltm, hr0, if_neg (by decide), hb, if_neg (fun e => hne.1 (c91.1 e)), if_neg (fun e => hne.2 (c93.1 e)), winc (by omega)]
theorem rlabel_ev (s : List UInt8) (h : s.length ≤ 2000) : Ev (fun k => incipitref09_Label.f k (B s)) (B (lab s).1, ((lab s).2 : Int)) := by
  unfold incipitref09_Label.f
  have hno : Ev (fun k => incipitref09_Label.j0 k (B s) true) (B [], (0 : Int)) := by
    refine Ev.step (f := fun _ => some (B [], 0)) (fun k => ?_) (Ev.now _)
    simp only [incipitref09_Label.j0]
    exact if_pos (by first | trivial | rfl)
  cases s with
  | nil => exact Ev.congr (fun k => if_pos (by exact B_toList [])) hno
  | cons x t =>
    have c91 : ((x.toNat : Int) = 91) ↔ x = 91 := u8_eq _ 91 (by omega)
    have hb : bt (B (x :: t)) 0 = (x.toNat : Int) := B_bt (x :: t) 0 (by simp)
    refine Ev.congr (f := fun k => incipitref09_Label.j0 k (B (x :: t)) ((x.toNat : Int) != 91)) (fun k => by rw [if_neg (by rw [B_toList]; simp), if_pos (by rw [B_size]; simp), hb]) ?_
    by_cases h91 : x = 91
    · rw [show ((x.toNat : Int) != 91) = false by rw [bne, beq_iff_eq.2 (c91.2 h91)]; rfl]
      subst h91
      have hm := marks_ev (91 :: t) (by omega)
      have hl := rlabel_l t.length t [] [] (Nat.le_refl _) rfl h (mk_one 91 t (fun e => absurd e (by decide))) (by simp)
      refine Ev.step (f := fun k => (incipitref09_marks.f k (B (91 :: t))).bind _) (fun k => by simp only [incipitref09_Label.j0]; rw [if_neg (by decide)]) (Ev.bind hm ?_)
      exact hl
    · rw [show ((x.toNat : Int) != 91) = true by rw [bne, beq_eq_false_iff_ne.2 (fun e => h91 (c91.1 e))]; rfl, lab_no x t h91]
      exact hno
/-! #### gap -/
/-- Blanks, and then LF. -/
def nb : List UInt8 → Bool
  | [] => false
  | x :: t => if x = 10 then true else if x = 32 ∨ x = 9 then nb t else false
theorem gp_true : ∀ r : List UInt8, gp true r = (nb r || gp false r)
  | [] => rfl
  | x :: t => by
    by_cases h : x = 10
    · rw [gp, if_pos h, nb, if_pos h]; rfl
    · by_cases h2 : x = 32 ∨ x = 9
      · have hb : (decide (x = 32) || decide (x = 9)) = true := by simpa using h2
        rw [gp, if_neg h, nb, if_neg h, if_pos h2, hb, Bool.and_self, gp_true t, gp, if_neg h, Bool.false_and]
      · have hb : (decide (x = 32) || decide (x = 9)) = false := by simpa using h2
        rw [gp, if_neg h, nb, if_neg h, if_neg h2, hb, Bool.and_false, gp, if_neg h, Bool.false_and, Bool.false_or]
theorem rgap1 {G : Bool} (i : Nat) : ∀ (r p : List UInt8), p.length + r.length ≤ 1048576 → i ≤ 1048576 → Ev (fun k => incipitref09_gap.l0 k (B (p ++ r)) (((i + 1 : Nat)) : Int)) G →
    Ev (fun k => incipitref09_gap.l1 k (B (p ++ r)) (i : Int) (p.length : Int)) (nb r || G)
  | [], p, _, hi, hG => by
    rw [List.append_nil] at hG ⊢
    refine Ev.step (fun k => ?_) hG
    simp only [incipitref09_gap.l1]
    rw [if_neg (nlt_sz p), winc hi]
  | x :: r, p, h, hi, hG => by
    rw [List.length_cons] at h
    have c32 : ((x.toNat : Int) = 32) ↔ x = 32 := u8_eq _ 32 (by omega)
    have c9 : ((x.toNat : Int) = 9) ↔ x = 9 := u8_eq _ 9 (by omega)
    have c10 : ((x.toNat : Int) = 10) ↔ x = 10 := u8_eq _ 10 (by omega)
    have ih := rgap1 i r (p ++ [x]) (by rw [snoc_len]; omega) hi (by rw [← snoc]; exact hG)
    rw [← snoc, snoc_len] at ih
    by_cases h32 : x = 32
    · rw [nb, if_neg (by rw [h32]; decide), if_pos (.inl h32)]
      refine Ev.step (fun k => ?_) ih
      simp only [incipitref09_gap.l1]
      rw [if_pos (lt_sz p r x), if_pos (nn _), bt_mid, if_pos (c32.2 h32), winc (by omega)]
    · by_cases h9 : x = 9
      · rw [nb, if_neg (by rw [h9]; decide), if_pos (.inr h9)]
        refine Ev.step (fun k => ?_) ih
        simp only [incipitref09_gap.l1]
        rw [if_pos (lt_sz p r x), if_pos (nn _), bt_mid, if_neg (fun e => h32 (c32.1 e)), if_pos (c9.2 h9), winc (by omega)]
      · by_cases h10 : x = 10
        · rw [nb, if_pos h10, Bool.true_or]
          refine Ev.step (f := fun _ => some true) (fun k => ?_) (Ev.now _)
          simp only [incipitref09_gap.l1]
          rw [if_pos (lt_sz p r x), if_pos (nn _), bt_mid, if_neg (fun e => h32 (c32.1 e)), if_neg (fun e => h9 (c9.1 e)), if_pos (c10.2 h10)]
        · rw [nb, if_neg h10, if_neg (by rintro (e | e); exact h32 e; exact h9 e), Bool.false_or]
          refine Ev.step (fun k => ?_) hG
          simp only [incipitref09_gap.l1]
          rw [if_pos (lt_sz p r x), if_pos (nn _), bt_mid, if_neg (fun e => h32 (c32.1 e)), if_neg (fun e => h9 (c9.1 e)), if_neg (fun e => h10 (c10.1 e)), winc hi]
theorem rgap0 : ∀ (r p : List UInt8), p.length + r.length ≤ 1048576 → Ev (fun k => incipitref09_gap.l0 k (B (p ++ r)) (p.length : Int)) (gp false r)
  | [], p, _ => by
    refine Ev.step (f := fun _ => some false) (fun k => ?_) (Ev.now _)
    simp only [incipitref09_gap.l0]
    rw [List.append_nil, if_neg (nlt_sz p)]
  | x :: r, p, h => by
    rw [List.length_cons] at h
    have c10 : ((x.toNat : Int) = 10) ↔ x = 10 := u8_eq _ 10 (by omega)
    have ih := rgap0 r (p ++ [x]) (by rw [snoc_len]; omega)
    rw [← snoc, snoc_len] at ih
    by_cases h10 : x = 10
    · rw [gp, if_pos h10, Bool.false_or, gp_true]
      have h1 := rgap1 (G := gp false r) p.length r (p ++ [x]) (by rw [snoc_len]; omega) (by omega) (by rw [← snoc]; exact ih)
      rw [← snoc, snoc_len] at h1
      refine Ev.step (fun k => ?_) h1
      simp only [incipitref09_gap.l0]
      rw [if_pos (lt_sz p r x), if_pos (nn _), bt_mid, if_pos (c10.2 h10), winc (by omega)]
    · rw [gp, if_neg h10, Bool.false_and]
      refine Ev.step (fun k => ?_) ih
      simp only [incipitref09_gap.l0]
      rw [if_pos (lt_sz p r x), if_pos (nn _), bt_mid, if_neg (fun e => h10 (c10.1 e)), winc (by omega)]
theorem rgap_ev (s : List UInt8) (h : s.length ≤ 1048576) : Ev (fun k => incipitref09_gap.f k (B s)) (gp false s) := by
  have := rgap0 s [] (by simpa using h)
  rw [List.nil_append] at this
  exact this
end Go.Proofs.YtjobchgncdgfaaaGreatDoor.Pure
