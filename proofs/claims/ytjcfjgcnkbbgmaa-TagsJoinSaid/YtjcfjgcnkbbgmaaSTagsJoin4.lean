/-
  The law TagsJoin holds: for every input it answers true, its arguments read behind the call as before. Conditions: the listed package-level variables as the program's text lays them (tied by the card).
-/
import Derived.Test.YtjcfjgcnkbbgmaaSTagsJoin1
import Derived.Test.YtjcfjgcnkbbgmaaSTagsJoin3
set_option linter.unusedVariables false
namespace Go.Proofs.Ytjcfjgcnkbbgmaa.PA
open Go.RowKit Go.Proofs.YtjcfjgcnkbbgmaaW.PrintWords Go.Proofs.YtjcfjgcnkbbgmaaW.PrintLast Go.Proofs.YtjcfjgcnkbbgmaaW.PrintMore
attribute [local go_sem] max2_int min2_int max_two min_two max_three min_three max_four min_four   -- for this text's walks alone
set_option linter.unusedVariables false
set_option linter.unusedSimpArgs false

/-! ### incipitlaw21_TagsJoin: function 4 -/
mutual
def incipitlaw21_TagsJoin.j0 : Nat → ByteArray → ByteArray → ByteArray → Bool → Bool → Option (Bool)
  | 0, _, _, _, _, _ => none
  | k + 1, x0, x1, x2, x7, x27 => if x27 = true then (some x7) else (incipitlaw21_TagsJoin.l0 k x0 x1 x2 x7 0)
def incipitlaw21_TagsJoin.l0 : Nat → ByteArray → ByteArray → ByteArray → Bool → Int → Option (Bool)
  | 0, _, _, _, _, _ => none
  | k + 1, x0, x1, x2, x7, x8 => if x8 < (x2.size : Int) then (if 0 ≤ x8 then (if (bt x2 x8) < 97 then (some x7) else (if (bt x2 x8) > 122 then (some x7) else (incipitlaw21_TagsJoin.l0 k x0 x1 x2 x7 (wrap64 (x8 + 1))))) else (none)) else ((tags_Check.f k x0).bind fun t275 => (if t275 = true then ((tags_Check.f k x1).bind fun t276 => (incipitlaw21_TagsJoin.j2 k x0 x1 x2 x7 (!t276))) else (incipitlaw21_TagsJoin.j2 k x0 x1 x2 x7 true)))
def incipitlaw21_TagsJoin.j2 : Nat → ByteArray → ByteArray → ByteArray → Bool → Bool → Option (Bool)
  | 0, _, _, _, _, _ => none
  | k + 1, x0, x1, x2, x7, x53 => if x53 = true then (some x7) else (if 1 + x2.size ≤ 9223372036854775807 then (if ((⟨#[60]⟩ : ByteArray) ++ x2).size + 1 ≤ 9223372036854775807 then (if (((⟨#[60]⟩ : ByteArray) ++ x2) ++ (⟨#[62]⟩ : ByteArray)).size + x0.size ≤ 9223372036854775807 then (if ((((⟨#[60]⟩ : ByteArray) ++ x2) ++ (⟨#[62]⟩ : ByteArray)) ++ x0).size + 2 ≤ 9223372036854775807 then (if (((((⟨#[60]⟩ : ByteArray) ++ x2) ++ (⟨#[62]⟩ : ByteArray)) ++ x0) ++ (⟨#[60, 47]⟩ : ByteArray)).size + x2.size ≤ 9223372036854775807 then (if ((((((⟨#[60]⟩ : ByteArray) ++ x2) ++ (⟨#[62]⟩ : ByteArray)) ++ x0) ++ (⟨#[60, 47]⟩ : ByteArray)) ++ x2).size + 1 ≤ 9223372036854775807 then (if x7 = true then (if x0.size + x1.size ≤ 9223372036854775807 then ((tags_Check.f k (x0 ++ x1)).bind fun t277 => (if t277 = true then ((tags_Check.f k (((((((⟨#[60]⟩ : ByteArray) ++ x2) ++ (⟨#[62]⟩ : ByteArray)) ++ x0) ++ (⟨#[60, 47]⟩ : ByteArray)) ++ x2) ++ (⟨#[62]⟩ : ByteArray))).bind fun t278 => (if t278 = true then (if x1.size + (((((((⟨#[60]⟩ : ByteArray) ++ x2) ++ (⟨#[62]⟩ : ByteArray)) ++ x0) ++ (⟨#[60, 47]⟩ : ByteArray)) ++ x2) ++ (⟨#[62]⟩ : ByteArray)).size ≤ 9223372036854775807 then (if (x1 ++ (((((((⟨#[60]⟩ : ByteArray) ++ x2) ++ (⟨#[62]⟩ : ByteArray)) ++ x0) ++ (⟨#[60, 47]⟩ : ByteArray)) ++ x2) ++ (⟨#[62]⟩ : ByteArray))).size + 1 ≤ 9223372036854775807 then (if ((x1 ++ (((((((⟨#[60]⟩ : ByteArray) ++ x2) ++ (⟨#[62]⟩ : ByteArray)) ++ x0) ++ (⟨#[60, 47]⟩ : ByteArray)) ++ x2) ++ (⟨#[62]⟩ : ByteArray))) ++ (⟨#[60]⟩ : ByteArray)).size + x2.size ≤ 9223372036854775807 then (if (((x1 ++ (((((((⟨#[60]⟩ : ByteArray) ++ x2) ++ (⟨#[62]⟩ : ByteArray)) ++ x0) ++ (⟨#[60, 47]⟩ : ByteArray)) ++ x2) ++ (⟨#[62]⟩ : ByteArray))) ++ (⟨#[60]⟩ : ByteArray)) ++ x2).size + 3 ≤ 9223372036854775807 then ((tags_Check.f k ((((x1 ++ (((((((⟨#[60]⟩ : ByteArray) ++ x2) ++ (⟨#[62]⟩ : ByteArray)) ++ x0) ++ (⟨#[60, 47]⟩ : ByteArray)) ++ x2) ++ (⟨#[62]⟩ : ByteArray))) ++ (⟨#[60]⟩ : ByteArray)) ++ x2) ++ (⟨#[32, 47, 62]⟩ : ByteArray))).bind fun t279 => (if t279 = true then (if x1.size + 1 ≤ 9223372036854775807 then (if (x1 ++ (⟨#[60]⟩ : ByteArray)).size + x2.size ≤ 9223372036854775807 then (if ((x1 ++ (⟨#[60]⟩ : ByteArray)) ++ x2).size + 1 ≤ 9223372036854775807 then (if (((x1 ++ (⟨#[60]⟩ : ByteArray)) ++ x2) ++ (⟨#[62]⟩ : ByteArray)).size + x0.size ≤ 9223372036854775807 then ((tags_Check.f k ((((x1 ++ (⟨#[60]⟩ : ByteArray)) ++ x2) ++ (⟨#[62]⟩ : ByteArray)) ++ x0)).bind fun t280 => (if t280 = true then (none) else (if 2 + x2.size ≤ 9223372036854775807 then (if ((⟨#[60, 47]⟩ : ByteArray) ++ x2).size + 1 ≤ 9223372036854775807 then (if (((⟨#[60, 47]⟩ : ByteArray) ++ x2) ++ (⟨#[62]⟩ : ByteArray)).size + x0.size ≤ 9223372036854775807 then ((tags_Check.f k ((((⟨#[60, 47]⟩ : ByteArray) ++ x2) ++ (⟨#[62]⟩ : ByteArray)) ++ x0)).bind fun t281 => (if t281 = true then (none) else (if (((((((⟨#[60]⟩ : ByteArray) ++ x2) ++ (⟨#[62]⟩ : ByteArray)) ++ x0) ++ (⟨#[60, 47]⟩ : ByteArray)) ++ x2) ++ (⟨#[62]⟩ : ByteArray)).size + x1.size ≤ 9223372036854775807 then ((tags_Text.f k ((((((((⟨#[60]⟩ : ByteArray) ++ x2) ++ (⟨#[62]⟩ : ByteArray)) ++ x0) ++ (⟨#[60, 47]⟩ : ByteArray)) ++ x2) ++ (⟨#[62]⟩ : ByteArray)) ++ x1)).bind fun t282 => ((tags_Text.f k x0).bind fun t283 => ((tags_Text.f k x1).bind fun t284 => (if t283.size + t284.size ≤ 9223372036854775807 then (some (t282.toList == (t283 ++ t284).toList)) else (none))))) else (none)))) else (none)) else (none)) else (none)))) else (none)) else (none)) else (none)) else (none)) else (none))) else (none)) else (none)) else (none)) else (none)) else (none))) else (none))) else (none)) else (none)) else (none)) else (none)) else (none)) else (none)) else (none)) else (none))
end
def incipitlaw21_TagsJoin.f (k : Nat) (a0 : ByteArray) (a1 : ByteArray) (a2 : ByteArray) : Option (Bool) := (incipitlaw21_awake.f k).bind fun t274 => (if (a0.size : Int) > 500 then (incipitlaw21_TagsJoin.j0 k a0 a1 a2 t274 true) else (if (a1.size : Int) > 500 then (incipitlaw21_TagsJoin.j0 k a0 a1 a2 t274 true) else (if a2.toList = ([] : List UInt8) then (incipitlaw21_TagsJoin.j0 k a0 a1 a2 t274 true) else (incipitlaw21_TagsJoin.j0 k a0 a1 a2 t274 (decide ((a2.size : Int) > 50))))))
set_option maxHeartbeats 8000000 in
set_option maxRecDepth 100000 in
theorem incipitlaw21_TagsJoin.calls (k : Nat) (a0 : ByteArray) (a1 : ByteArray) (a2 : ByteArray) (r : Bool) (w : World) (hLd : Laid w) (h : incipitlaw21_TagsJoin.f k a0 a1 a2 = some r) :
    Calls Try.prog 4 #[.string a0, .string a1, .string a2] w fun e w' => e = .returned (.bool r) ∧ Below w.heap.size w w' := by
  have HB := Aside0.mk (Below.refl w.heap.size w)
  have H : ((incipitlaw21_awake.f k).bind fun t274 => (if (a0.size : Int) > 500 then (incipitlaw21_TagsJoin.j0 k a0 a1 a2 t274 true) else (if (a1.size : Int) > 500 then (incipitlaw21_TagsJoin.j0 k a0 a1 a2 t274 true) else (if a2.toList = ([] : List UInt8) then (incipitlaw21_TagsJoin.j0 k a0 a1 a2 t274 true) else (incipitlaw21_TagsJoin.j0 k a0 a1 a2 t274 (decide ((a2.size : Int) > 50))))))) = some r := h
  clear h
  replace H := Option.bind_eq_some_iff.mp H
  obtain ⟨t274, A40, H⟩ := H
  replace H : (if (a0.size : Int) > 500 then (incipitlaw21_TagsJoin.j0 k a0 a1 a2 t274 true) else (if (a1.size : Int) > 500 then (incipitlaw21_TagsJoin.j0 k a0 a1 a2 t274 true) else (if a2.toList = ([] : List UInt8) then (incipitlaw21_TagsJoin.j0 k a0 a1 a2 t274 true) else (incipitlaw21_TagsJoin.j0 k a0 a1 a2 t274 (decide ((a2.size : Int) > 50)))))) = some r := H
  have A4 := Aside0.mk A40
  clear A40
  have HC5 := Aside0.mk H
  clear H
  go_enter Try.func4, Try.ntmps4
  go_upto_region 2 with (first | ((with_reducible refine gate_callee (f := 7) rfl ?_); refine goesL_ (some 10) rfl rfl Try.func7 (by kernel_rfl) rfl #[] rfl (by (try simp only [List.map_toArray, List.map_cons, List.map_nil]); first | done | rfl | (simp only [List.length_drop, List.length_take]; rfl)) ?_; (with_reducible refine (incipitlaw21_awake.calls k  t274 _ ?side1 A4.out).mono ?_); (case side1 => exact Laid.go hLd (by repeat (first | (with_reducible first | exact HB.out | apply below_alloc | apply pw_below_drewN | apply below_drew1) | exact HB.out))); rintro e w6 ⟨rfl, hb⟩; refine ⟨_, rfl, ?_⟩; have n0_ := Aside0.mk (below_step (by repeat (first | (with_reducible first | exact HB.out | apply below_alloc | apply pw_below_drewN | apply below_drew1) | exact HB.out)) hb); clear HB; have HB := n0_; clear n0_; (try clear hb); (try clear hb2); (try clear hk); (try clear hi)))
  (try simp only [Act.put, List.setIfInBounds_toArray, List.set_cons_zero, List.set_cons_succ])
  go_cut [27] (fun v27 wc => ∃ (kq : Nat) (x27_4 : Bool), v27 = .bool x27_4 ∧ Aside0 (incipitlaw21_TagsJoin.j0 kq a0 a1 a2 t274 x27_4 = some r) ∧ Aside0 (kq ≤ k) ∧ Aside0 (Below w.heap.size w wc))
  case first =>
    have H := HC5.out
    clear HC5
    by_cases c7 : (a0.size : Int) > 500
    · rw [if_pos c7] at H
      have c7b0 : decide (500 < (a0.size : Int)) = true := decide_eq_true c7
      have c7b1 : decide (500 < a0.size) = true := decide_eq_true (by omega)
      clear c7
      (first | rw [c7b0] | (simp only [i64_w, i32_w]; rw [c7b0]) | skip)
      have H' := Aside0.mk H
      clear H
      go_wp2
      go_meet
      case rel => exact ⟨_, (true), (by first | rfl | (simp; done) | (simp [*]; done)), H', ⟨by first | omega | exact Nat.le_refl _⟩, ⟨by repeat (first | (with_reducible first | exact HB.out | apply below_alloc | apply pw_below_drewN | apply below_drew1) | exact HB.out)⟩⟩
    · rw [if_neg c7] at H
      have c7b0 : decide (500 < (a0.size : Int)) = false := decide_eq_false c7
      have c7b1 : decide (500 < a0.size) = false := decide_eq_false (by omega)
      clear c7
      (first | rw [c7b0] | (simp only [i64_w, i32_w]; rw [c7b0]) | skip)
      by_cases c8 : (a1.size : Int) > 500
      · rw [if_pos c8] at H
        have c8b0 : decide (500 < (a1.size : Int)) = true := decide_eq_true c8
        have c8b1 : decide (500 < a1.size) = true := decide_eq_true (by omega)
        clear c8
        have H' := Aside0.mk H
        clear H
        go_wp2
        go_meet
        case rel => exact ⟨_, (true), (by first | rfl | (simp; done) | (simp [*]; done)), H', ⟨by first | omega | exact Nat.le_refl _⟩, ⟨by repeat (first | (with_reducible first | exact HB.out | apply below_alloc | apply pw_below_drewN | apply below_drew1) | exact HB.out)⟩⟩
      · rw [if_neg c8] at H
        have c8b0 : decide (500 < (a1.size : Int)) = false := decide_eq_false c8
        have c8b1 : decide (500 < a1.size) = false := decide_eq_false (by omega)
        clear c8
        by_cases c9 : a2.toList = ([] : List UInt8)
        · rw [if_pos c9] at H
          have c9b0 : (a2.toList == ([] : List UInt8)) = true := beq_iff_eq.mpr c9
          have c9b1 : (a2.toList != ([] : List UInt8)) = false := bne_eq_false_iff_eq.mpr c9
          clear c9
          have H' := Aside0.mk H
          clear H
          go_wp2
          go_meet
          case rel => exact ⟨_, (true), (by first | rfl | (simp; done) | (simp [*]; done)), H', ⟨by first | omega | exact Nat.le_refl _⟩, ⟨by repeat (first | (with_reducible first | exact HB.out | apply below_alloc | apply pw_below_drewN | apply below_drew1) | exact HB.out)⟩⟩
        · rw [if_neg c9] at H
          have c9b0 : (a2.toList == ([] : List UInt8)) = false := beq_eq_false_iff_ne.mpr c9
          have c9b1 : (a2.toList != ([] : List UInt8)) = true := bne_iff_ne.mpr c9
          have H' := Aside0.mk H
          clear H
          go_wp2
          go_meet
          case rel => exact ⟨_, (decide ((a2.size : Int) > 50)), (by first | rfl | (simp; done) | (simp [*]; done)), H', ⟨by first | omega | exact Nat.le_refl _⟩, ⟨by repeat (first | (with_reducible first | exact HB.out | apply below_alloc | apply pw_below_drewN | apply below_drew1) | exact HB.out)⟩⟩
  case rest =>
    clear HC5
    try clear p2
    try clear c4
    try clear c7
    try clear c7b0
    try clear c7b1
    try clear c8
    try clear c8b0
    try clear c8b1
    try clear c9
    try clear c9b0
    try clear c9b1
    obtain ⟨kq, x27_4, rfl, HA, HJ4, HB⟩ := hcut
    cases kq with
    | zero => exact absurd HA.out (by simp [incipitlaw21_TagsJoin.j0])
    | succ kj4 =>
      have H := HA.out
      clear HA
      simp only [incipitlaw21_TagsJoin.j0] at H
      by_cases c10 : x27_4 = true
      · subst c10
        have H1 : (some t274) = some r := by rw [if_pos rfl] at H; exact H
        clear H
        have H := H1
        clear H1
        obtain rfl := Option.some.inj H
        go_wp2
        go_ret
        exact ⟨by first | rfl | exact retNe _ | (simp [errW_none, errW_some] <;> rfl) | (simp [*, errW_none, errW_some] <;> rfl), by repeat (first | (with_reducible first | exact HB.out | apply below_alloc | apply pw_below_drewN | apply below_drew1) | exact HB.out)⟩
      · replace c10 := Bool.eq_false_iff.mpr c10
        subst c10
        have H1 : (incipitlaw21_TagsJoin.l0 kj4 a0 a1 a2 t274 0) = some r := by rw [if_neg (show ¬ (false = true) by decide)] at H; exact H
        clear H
        have H := H1
        clear H1
        have H' := Aside0.mk H
        clear H
        go_wp2
        go_loopg [8] kj4 (fun kq v8 w' => ∃ (x8_2 : Int), v8 = .int .i64 x8_2 ∧ Aside0 (incipitlaw21_TagsJoin.l0 kq a0 a1 a2 t274 x8_2 = some r) ∧ Aside0 (kq ≤ kj4) ∧ Aside0 (Below w.heap.size w w'))
        case atStart => exact ⟨(0), (by first | rfl | (simp; done) | (simp [*]; done)), H', ⟨Nat.le_refl _⟩, ⟨by repeat (first | (with_reducible first | exact HB.out | apply below_alloc | apply pw_below_drewN | apply below_drew1) | exact HB.out)⟩⟩
        case round =>
          clear H'
          try clear c1
          try clear p2
          try clear c4
          try clear c7
          try clear c7b0
          try clear c7b1
          try clear c8
          try clear c8b0
          try clear c8b1
          try clear c9
          try clear c9b0
          try clear c9b1
          try clear c10
          try clear p2
          obtain ⟨x8_2, rfl, HA, HK2, HB⟩ := hrel
          cases gk with
          | zero => exact absurd HA.out (by simp [incipitlaw21_TagsJoin.l0])
          | succ k2 =>
            have H := HA.out
            clear HA
            simp only [incipitlaw21_TagsJoin.l0] at H
            by_cases c11 : x8_2 < (a2.size : Int)
            · rw [if_pos c11] at H
              have c11b0 : decide (x8_2 < (a2.size : Int)) = true := decide_eq_true c11
              clear c11
              by_cases c12 : 0 ≤ x8_2
              · rw [if_pos c12] at H
                have c12b0 : decide (0 ≤ x8_2) = true := decide_eq_true c12
                clear c12
                by_cases c14 : (bt a2 x8_2) < 97
                · rw [if_pos c14] at H
                  have c14b0 : decide ((bt a2 x8_2) < 97) = true := decide_eq_true c14
                  clear c14
                  obtain rfl := Option.some.inj H
                  have p13 : 0 ≤ (x8_2 : Int) := of_decide_eq_true (by first | (with_reducible assumption) | assumption)
                  have q13 : x8_2 < (a2.size : Int) := of_decide_eq_true (by first | (with_reducible assumption) | assumption)
                  have hx13 := bt_at a2 x8_2
                  replace p13 := eq_true p13
                  replace q13 := eq_true q13
                  go_wp2
                  go_ret
                  exact ⟨by first | rfl | exact retNe _ | (simp [errW_none, errW_some] <;> rfl) | (simp [*, errW_none, errW_some] <;> rfl), by repeat (first | (with_reducible first | exact HB.out | apply below_alloc | apply pw_below_drewN | apply below_drew1) | exact HB.out)⟩
                · rw [if_neg c14] at H
                  have c14b0 : decide ((bt a2 x8_2) < 97) = false := decide_eq_false c14
                  clear c14
                  by_cases c16 : (bt a2 x8_2) > 122
                  · rw [if_pos c16] at H
                    have c16b0 : decide (122 < (bt a2 x8_2)) = true := decide_eq_true c16
                    clear c16
                    obtain rfl := Option.some.inj H
                    have p13 : 0 ≤ (x8_2 : Int) := of_decide_eq_true (by first | (with_reducible assumption) | assumption)
                    have q13 : x8_2 < (a2.size : Int) := of_decide_eq_true (by first | (with_reducible assumption) | assumption)
                    have hx13 := bt_at a2 x8_2
                    replace p13 := eq_true p13
                    replace q13 := eq_true q13
                    have p15 : 0 ≤ (x8_2 : Int) := of_decide_eq_true (by first | (with_reducible assumption) | assumption)
                    have q15 : x8_2 < (a2.size : Int) := of_decide_eq_true (by first | (with_reducible assumption) | assumption)
                    have hx15 := bt_at a2 x8_2
                    replace p15 := eq_true p15
                    replace q15 := eq_true q15
                    go_wp2
                    go_ret
                    exact ⟨by first | rfl | exact retNe _ | (simp [errW_none, errW_some] <;> rfl) | (simp [*, errW_none, errW_some] <;> rfl), by repeat (first | (with_reducible first | exact HB.out | apply below_alloc | apply pw_below_drewN | apply below_drew1) | exact HB.out)⟩
                  · rw [if_neg c16] at H
                    have c16b0 : decide (122 < (bt a2 x8_2)) = false := decide_eq_false c16
                    clear c16
                    have H' := Aside0.mk H
                    clear H
                    have p13 : 0 ≤ (x8_2 : Int) := of_decide_eq_true (by first | (with_reducible assumption) | assumption)
                    have q13 : x8_2 < (a2.size : Int) := of_decide_eq_true (by first | (with_reducible assumption) | assumption)
                    have hx13 := bt_at a2 x8_2
                    replace p13 := eq_true p13
                    replace q13 := eq_true q13
                    have p15 : 0 ≤ (x8_2 : Int) := of_decide_eq_true (by first | (with_reducible assumption) | assumption)
                    have q15 : x8_2 < (a2.size : Int) := of_decide_eq_true (by first | (with_reducible assumption) | assumption)
                    have hx15 := bt_at a2 x8_2
                    replace p15 := eq_true p15
                    replace q15 := eq_true q15
                    go_wp2
                    go_roundg k2
                    case measure => have := HJ4.out; have := HK2.out; omega
                    case rel => exact ⟨(wrap64 (x8_2 + 1)), (by first | rfl | (simp; done) | (simp [*]; done)), H', ⟨by have := HJ4.out; have := HK2.out; omega⟩, ⟨by repeat (first | (with_reducible first | exact HB.out | apply below_alloc | apply pw_below_drewN | apply below_drew1) | exact HB.out)⟩⟩
              · rw [if_neg c12] at H
                exact absurd H (by simp)
            · rw [if_neg c11] at H
              have c11b0 : decide (x8_2 < (a2.size : Int)) = false := decide_eq_false c11
              clear c11
              have HC17 := Aside0.mk H
              clear H
              go_upto_region 9 with (fail)
              go_cut [53] (fun v53 wc => ∃ (kq : Nat) (x53_16 : Bool), v53 = .bool x53_16 ∧ Aside0 (incipitlaw21_TagsJoin.j2 kq a0 a1 a2 t274 x53_16 = some r) ∧ Aside0 (kq ≤ k2) ∧ Aside0 (Below w.heap.size w wc))
              case first =>
                have H := HC17.out
                clear HC17
                replace H := Option.bind_eq_some_iff.mp H
                obtain ⟨t275, A180, H⟩ := H
                replace H : (if t275 = true then ((tags_Check.f k2 a1).bind fun t276 => (incipitlaw21_TagsJoin.j2 k2 a0 a1 a2 t274 (!t276))) else (incipitlaw21_TagsJoin.j2 k2 a0 a1 a2 t274 true)) = some r := H
                have A18 := Aside0.mk A180
                clear A180
                by_cases c19 : t275 = true
                · subst c19
                  have H1 : ((tags_Check.f k2 a1).bind fun t276 => (incipitlaw21_TagsJoin.j2 k2 a0 a1 a2 t274 (!t276))) = some r := by rw [if_pos rfl] at H; exact H
                  clear H
                  have H := H1
                  clear H1
                  replace H := Option.bind_eq_some_iff.mp H
                  obtain ⟨t276, A200, H⟩ := H
                  replace H : (incipitlaw21_TagsJoin.j2 k2 a0 a1 a2 t274 (!t276)) = some r := H
                  have A20 := Aside0.mk A200
                  clear A200
                  have H' := Aside0.mk H
                  clear H
                  go_wp2_with (first | ((with_reducible refine gate_callee (f := 12) rfl ?_); refine goesL_ (some 47) rfl rfl Try.func12 (by kernel_rfl) rfl #[.string a0] rfl (by (try simp only [List.map_toArray, List.map_cons, List.map_nil]); first | done | rfl | (simp only [List.length_drop, List.length_take]; rfl)) ?_; (with_reducible refine (tags_Check.calls k2 a0 true _ ?side1 A18.out).mono ?_); (case side1 => exact Laid.go hLd (by repeat (first | (with_reducible first | exact HB.out | apply below_alloc | apply pw_below_drewN | apply below_drew1) | exact HB.out))); rintro e w21 ⟨rfl, hb⟩; refine ⟨_, rfl, ?_⟩; have n0_ := Aside0.mk (below_step (by repeat (first | (with_reducible first | exact HB.out | apply below_alloc | apply pw_below_drewN | apply below_drew1) | exact HB.out)) hb); clear HB; have HB := n0_; clear n0_; (try clear hb); (try clear hb2); (try clear hk); (try clear hi)) | (go_at_call 12; (with_reducible refine (tags_Check.calls k2 a1 t276 _ ?side1 A20.out).mono ?_); (case side1 => exact Laid.go hLd (by repeat (first | (with_reducible first | exact HB.out | apply below_alloc | apply pw_below_drewN | apply below_drew1) | exact HB.out))); rintro e w22 ⟨rfl, hb⟩; have n0_ := Aside0.mk (below_step (by repeat (first | (with_reducible first | exact HB.out | apply below_alloc | apply pw_below_drewN | apply below_drew1) | exact HB.out)) hb); clear HB; have HB := n0_; clear n0_; (try clear hb); (try clear hb2); (try clear hk); (try clear hi)))
                  go_meet
                  case rel => exact ⟨_, (!t276), (by first | rfl | (simp; done) | (simp [*]; done)), H', ⟨by have := HJ4.out; have := HK2.out; first | omega | exact Nat.le_refl _⟩, ⟨by repeat (first | (with_reducible first | exact HB.out | apply below_alloc | apply pw_below_drewN | apply below_drew1) | exact HB.out)⟩⟩
                · replace c19 := Bool.eq_false_iff.mpr c19
                  subst c19
                  have H1 : (incipitlaw21_TagsJoin.j2 k2 a0 a1 a2 t274 true) = some r := by rw [if_neg (show ¬ (false = true) by decide)] at H; exact H
                  clear H
                  have H := H1
                  clear H1
                  have H' := Aside0.mk H
                  clear H
                  go_wp2_with (first | ((with_reducible refine gate_callee (f := 12) rfl ?_); refine goesL_ (some 47) rfl rfl Try.func12 (by kernel_rfl) rfl #[.string a0] rfl (by (try simp only [List.map_toArray, List.map_cons, List.map_nil]); first | done | rfl | (simp only [List.length_drop, List.length_take]; rfl)) ?_; (with_reducible refine (tags_Check.calls k2 a0 false _ ?side1 A18.out).mono ?_); (case side1 => exact Laid.go hLd (by repeat (first | (with_reducible first | exact HB.out | apply below_alloc | apply pw_below_drewN | apply below_drew1) | exact HB.out))); rintro e w23 ⟨rfl, hb⟩; refine ⟨_, rfl, ?_⟩; have n0_ := Aside0.mk (below_step (by repeat (first | (with_reducible first | exact HB.out | apply below_alloc | apply pw_below_drewN | apply below_drew1) | exact HB.out)) hb); clear HB; have HB := n0_; clear n0_; (try clear hb); (try clear hb2); (try clear hk); (try clear hi)))
                  go_meet
                  case rel => exact ⟨_, (true), (by first | rfl | (simp; done) | (simp [*]; done)), H', ⟨by have := HJ4.out; have := HK2.out; first | omega | exact Nat.le_refl _⟩, ⟨by repeat (first | (with_reducible first | exact HB.out | apply below_alloc | apply pw_below_drewN | apply below_drew1) | exact HB.out)⟩⟩
              case rest =>
                clear HC17
                try clear c1
                try clear p1
                try clear q1
                try clear hx1
                try clear p2
                try clear c4
                try clear p6
                try clear c7
                try clear c7b0
                try clear c7b1
                try clear c8
                try clear c8b0
                try clear c8b1
                try clear c9
                try clear c9b0
                try clear c9b1
                try clear c10
                try clear c11
                try clear c11b0
                try clear c12
                try clear c12b0
                try clear p13
                try clear q13
                try clear hx13
                try clear c14
                try clear c14b0
                try clear p15
                try clear q15
                try clear hx15
                try clear c16
                try clear c16b0
                try clear c19
                try clear p13
                try clear p15
                try clear p2
                try clear q13
                try clear q15
                obtain ⟨kq, x53_16, rfl, HA, HJ16, HB⟩ := hcut
                cases kq with
                | zero => exact absurd HA.out (by simp [incipitlaw21_TagsJoin.j2])
                | succ kj16 =>
                  have H := HA.out
                  clear HA
                  simp only [incipitlaw21_TagsJoin.j2] at H
                  by_cases c24 : x53_16 = true
                  · subst c24
                    have H1 : (some t274) = some r := by rw [if_pos rfl] at H; exact H
                    clear H
                    have H := H1
                    clear H1
                    obtain rfl := Option.some.inj H
                    go_wp2
                    go_ret
                    exact ⟨by first | rfl | exact retNe _ | (simp [errW_none, errW_some] <;> rfl) | (simp [*, errW_none, errW_some] <;> rfl), by repeat (first | (with_reducible first | exact HB.out | apply below_alloc | apply pw_below_drewN | apply below_drew1) | exact HB.out)⟩
                  · replace c24 := Bool.eq_false_iff.mpr c24
                    subst c24
                    have H1 : (if 1 + a2.size ≤ 9223372036854775807 then (if ((⟨#[60]⟩ : ByteArray) ++ a2).size + 1 ≤ 9223372036854775807 then (if (((⟨#[60]⟩ : ByteArray) ++ a2) ++ (⟨#[62]⟩ : ByteArray)).size + a0.size ≤ 9223372036854775807 then (if ((((⟨#[60]⟩ : ByteArray) ++ a2) ++ (⟨#[62]⟩ : ByteArray)) ++ a0).size + 2 ≤ 9223372036854775807 then (if (((((⟨#[60]⟩ : ByteArray) ++ a2) ++ (⟨#[62]⟩ : ByteArray)) ++ a0) ++ (⟨#[60, 47]⟩ : ByteArray)).size + a2.size ≤ 9223372036854775807 then (if ((((((⟨#[60]⟩ : ByteArray) ++ a2) ++ (⟨#[62]⟩ : ByteArray)) ++ a0) ++ (⟨#[60, 47]⟩ : ByteArray)) ++ a2).size + 1 ≤ 9223372036854775807 then (if t274 = true then (if a0.size + a1.size ≤ 9223372036854775807 then ((tags_Check.f kj16 (a0 ++ a1)).bind fun t277 => (if t277 = true then ((tags_Check.f kj16 (((((((⟨#[60]⟩ : ByteArray) ++ a2) ++ (⟨#[62]⟩ : ByteArray)) ++ a0) ++ (⟨#[60, 47]⟩ : ByteArray)) ++ a2) ++ (⟨#[62]⟩ : ByteArray))).bind fun t278 => (if t278 = true then (if a1.size + (((((((⟨#[60]⟩ : ByteArray) ++ a2) ++ (⟨#[62]⟩ : ByteArray)) ++ a0) ++ (⟨#[60, 47]⟩ : ByteArray)) ++ a2) ++ (⟨#[62]⟩ : ByteArray)).size ≤ 9223372036854775807 then (if (a1 ++ (((((((⟨#[60]⟩ : ByteArray) ++ a2) ++ (⟨#[62]⟩ : ByteArray)) ++ a0) ++ (⟨#[60, 47]⟩ : ByteArray)) ++ a2) ++ (⟨#[62]⟩ : ByteArray))).size + 1 ≤ 9223372036854775807 then (if ((a1 ++ (((((((⟨#[60]⟩ : ByteArray) ++ a2) ++ (⟨#[62]⟩ : ByteArray)) ++ a0) ++ (⟨#[60, 47]⟩ : ByteArray)) ++ a2) ++ (⟨#[62]⟩ : ByteArray))) ++ (⟨#[60]⟩ : ByteArray)).size + a2.size ≤ 9223372036854775807 then (if (((a1 ++ (((((((⟨#[60]⟩ : ByteArray) ++ a2) ++ (⟨#[62]⟩ : ByteArray)) ++ a0) ++ (⟨#[60, 47]⟩ : ByteArray)) ++ a2) ++ (⟨#[62]⟩ : ByteArray))) ++ (⟨#[60]⟩ : ByteArray)) ++ a2).size + 3 ≤ 9223372036854775807 then ((tags_Check.f kj16 ((((a1 ++ (((((((⟨#[60]⟩ : ByteArray) ++ a2) ++ (⟨#[62]⟩ : ByteArray)) ++ a0) ++ (⟨#[60, 47]⟩ : ByteArray)) ++ a2) ++ (⟨#[62]⟩ : ByteArray))) ++ (⟨#[60]⟩ : ByteArray)) ++ a2) ++ (⟨#[32, 47, 62]⟩ : ByteArray))).bind fun t279 => (if t279 = true then (if a1.size + 1 ≤ 9223372036854775807 then (if (a1 ++ (⟨#[60]⟩ : ByteArray)).size + a2.size ≤ 9223372036854775807 then (if ((a1 ++ (⟨#[60]⟩ : ByteArray)) ++ a2).size + 1 ≤ 9223372036854775807 then (if (((a1 ++ (⟨#[60]⟩ : ByteArray)) ++ a2) ++ (⟨#[62]⟩ : ByteArray)).size + a0.size ≤ 9223372036854775807 then ((tags_Check.f kj16 ((((a1 ++ (⟨#[60]⟩ : ByteArray)) ++ a2) ++ (⟨#[62]⟩ : ByteArray)) ++ a0)).bind fun t280 => (if t280 = true then (none) else (if 2 + a2.size ≤ 9223372036854775807 then (if ((⟨#[60, 47]⟩ : ByteArray) ++ a2).size + 1 ≤ 9223372036854775807 then (if (((⟨#[60, 47]⟩ : ByteArray) ++ a2) ++ (⟨#[62]⟩ : ByteArray)).size + a0.size ≤ 9223372036854775807 then ((tags_Check.f kj16 ((((⟨#[60, 47]⟩ : ByteArray) ++ a2) ++ (⟨#[62]⟩ : ByteArray)) ++ a0)).bind fun t281 => (if t281 = true then (none) else (if (((((((⟨#[60]⟩ : ByteArray) ++ a2) ++ (⟨#[62]⟩ : ByteArray)) ++ a0) ++ (⟨#[60, 47]⟩ : ByteArray)) ++ a2) ++ (⟨#[62]⟩ : ByteArray)).size + a1.size ≤ 9223372036854775807 then ((tags_Text.f kj16 ((((((((⟨#[60]⟩ : ByteArray) ++ a2) ++ (⟨#[62]⟩ : ByteArray)) ++ a0) ++ (⟨#[60, 47]⟩ : ByteArray)) ++ a2) ++ (⟨#[62]⟩ : ByteArray)) ++ a1)).bind fun t282 => ((tags_Text.f kj16 a0).bind fun t283 => ((tags_Text.f kj16 a1).bind fun t284 => (if t283.size + t284.size ≤ 9223372036854775807 then (some (t282.toList == (t283 ++ t284).toList)) else (none))))) else (none)))) else (none)) else (none)) else (none)))) else (none)) else (none)) else (none)) else (none)) else (none))) else (none)) else (none)) else (none)) else (none)) else (none))) else (none))) else (none)) else (none)) else (none)) else (none)) else (none)) else (none)) else (none)) else (none)) = some r := by rw [if_neg (show ¬ (false = true) by decide)] at H; exact H
                    clear H
                    have H := H1
                    clear H1
                    by_cases c25 : 1 + a2.size ≤ 9223372036854775807
                    · rw [if_pos c25] at H
                      have c25b0 := eq_true c25
                      have c25b1 : decide (1 + a2.size ≤ 9223372036854775807) = true := decide_eq_true c25
                      try have c25b2 : (9223372036854775807 < 1 + a2.size) = False := eq_false (Nat.not_lt.2 c25)
                      by_cases c26 : ((⟨#[60]⟩ : ByteArray) ++ a2).size + 1 ≤ 9223372036854775807
                      · rw [if_pos c26] at H
                        have c26b0 := eq_true c26
                        have c26b1 : decide (((⟨#[60]⟩ : ByteArray) ++ a2).size + 1 ≤ 9223372036854775807) = true := decide_eq_true c26
                        have c26b4 := c26
                        (try simp only [ByteArray.size_append, ByteArray.size_extract, Nat.min_self] at c26b4)
                        (try have c26b5 := Nat.not_lt.2 c26b4)
                        (try have c26b7 : ¬ 9223372036854775807 < 1 + a2.size + 1 := by have hh := c26; simp only [ByteArray.size_append] at hh; exact Nat.not_lt.2 hh)
                        try have c26b2 : (9223372036854775807 < ((⟨#[60]⟩ : ByteArray) ++ a2).size + 1) = False := eq_false (Nat.not_lt.2 c26)
                        by_cases c27 : (((⟨#[60]⟩ : ByteArray) ++ a2) ++ (⟨#[62]⟩ : ByteArray)).size + a0.size ≤ 9223372036854775807
                        · rw [if_pos c27] at H
                          have c27b0 := eq_true c27
                          have c27b1 : decide ((((⟨#[60]⟩ : ByteArray) ++ a2) ++ (⟨#[62]⟩ : ByteArray)).size + a0.size ≤ 9223372036854775807) = true := decide_eq_true c27
                          have c27b4 := c27
                          (try simp only [ByteArray.size_append, ByteArray.size_extract, Nat.min_self] at c27b4)
                          (try have c27b5 := Nat.not_lt.2 c27b4)
                          (try have c27b7 : ¬ 9223372036854775807 < 1 + a2.size + 1 + a0.size := by have hh := c27; simp only [ByteArray.size_append] at hh; exact Nat.not_lt.2 hh)
                          try have c27b2 : (9223372036854775807 < (((⟨#[60]⟩ : ByteArray) ++ a2) ++ (⟨#[62]⟩ : ByteArray)).size + a0.size) = False := eq_false (Nat.not_lt.2 c27)
                          by_cases c28 : ((((⟨#[60]⟩ : ByteArray) ++ a2) ++ (⟨#[62]⟩ : ByteArray)) ++ a0).size + 2 ≤ 9223372036854775807
                          · rw [if_pos c28] at H
                            have c28b0 := eq_true c28
                            have c28b1 : decide (((((⟨#[60]⟩ : ByteArray) ++ a2) ++ (⟨#[62]⟩ : ByteArray)) ++ a0).size + 2 ≤ 9223372036854775807) = true := decide_eq_true c28
                            have c28b4 := c28
                            (try simp only [ByteArray.size_append, ByteArray.size_extract, Nat.min_self] at c28b4)
                            (try have c28b5 := Nat.not_lt.2 c28b4)
                            (try have c28b7 : ¬ 9223372036854775807 < 1 + a2.size + 1 + a0.size + 2 := by have hh := c28; simp only [ByteArray.size_append] at hh; exact Nat.not_lt.2 hh)
                            try have c28b2 : (9223372036854775807 < ((((⟨#[60]⟩ : ByteArray) ++ a2) ++ (⟨#[62]⟩ : ByteArray)) ++ a0).size + 2) = False := eq_false (Nat.not_lt.2 c28)
                            by_cases c29 : (((((⟨#[60]⟩ : ByteArray) ++ a2) ++ (⟨#[62]⟩ : ByteArray)) ++ a0) ++ (⟨#[60, 47]⟩ : ByteArray)).size + a2.size ≤ 9223372036854775807
                            · rw [if_pos c29] at H
                              have c29b0 := eq_true c29
                              have c29b1 : decide ((((((⟨#[60]⟩ : ByteArray) ++ a2) ++ (⟨#[62]⟩ : ByteArray)) ++ a0) ++ (⟨#[60, 47]⟩ : ByteArray)).size + a2.size ≤ 9223372036854775807) = true := decide_eq_true c29
                              have c29b4 := c29
                              (try simp only [ByteArray.size_append, ByteArray.size_extract, Nat.min_self] at c29b4)
                              (try have c29b5 := Nat.not_lt.2 c29b4)
                              (try have c29b7 : ¬ 9223372036854775807 < 1 + a2.size + 1 + a0.size + 2 + a2.size := by have hh := c29; simp only [ByteArray.size_append] at hh; exact Nat.not_lt.2 hh)
                              try have c29b2 : (9223372036854775807 < (((((⟨#[60]⟩ : ByteArray) ++ a2) ++ (⟨#[62]⟩ : ByteArray)) ++ a0) ++ (⟨#[60, 47]⟩ : ByteArray)).size + a2.size) = False := eq_false (Nat.not_lt.2 c29)
                              by_cases c30 : ((((((⟨#[60]⟩ : ByteArray) ++ a2) ++ (⟨#[62]⟩ : ByteArray)) ++ a0) ++ (⟨#[60, 47]⟩ : ByteArray)) ++ a2).size + 1 ≤ 9223372036854775807
                              · rw [if_pos c30] at H
                                have c30b0 := eq_true c30
                                have c30b1 : decide (((((((⟨#[60]⟩ : ByteArray) ++ a2) ++ (⟨#[62]⟩ : ByteArray)) ++ a0) ++ (⟨#[60, 47]⟩ : ByteArray)) ++ a2).size + 1 ≤ 9223372036854775807) = true := decide_eq_true c30
                                have c30b4 := c30
                                (try simp only [ByteArray.size_append, ByteArray.size_extract, Nat.min_self] at c30b4)
                                (try have c30b5 := Nat.not_lt.2 c30b4)
                                (try have c30b7 : ¬ 9223372036854775807 < 1 + a2.size + 1 + a0.size + 2 + a2.size + 1 := by have hh := c30; simp only [ByteArray.size_append] at hh; exact Nat.not_lt.2 hh)
                                try have c30b2 : (9223372036854775807 < ((((((⟨#[60]⟩ : ByteArray) ++ a2) ++ (⟨#[62]⟩ : ByteArray)) ++ a0) ++ (⟨#[60, 47]⟩ : ByteArray)) ++ a2).size + 1) = False := eq_false (Nat.not_lt.2 c30)
                                by_cases c31 : t274 = true
                                · subst c31
                                  have H1 : (if a0.size + a1.size ≤ 9223372036854775807 then ((tags_Check.f kj16 (a0 ++ a1)).bind fun t277 => (if t277 = true then ((tags_Check.f kj16 (((((((⟨#[60]⟩ : ByteArray) ++ a2) ++ (⟨#[62]⟩ : ByteArray)) ++ a0) ++ (⟨#[60, 47]⟩ : ByteArray)) ++ a2) ++ (⟨#[62]⟩ : ByteArray))).bind fun t278 => (if t278 = true then (if a1.size + (((((((⟨#[60]⟩ : ByteArray) ++ a2) ++ (⟨#[62]⟩ : ByteArray)) ++ a0) ++ (⟨#[60, 47]⟩ : ByteArray)) ++ a2) ++ (⟨#[62]⟩ : ByteArray)).size ≤ 9223372036854775807 then (if (a1 ++ (((((((⟨#[60]⟩ : ByteArray) ++ a2) ++ (⟨#[62]⟩ : ByteArray)) ++ a0) ++ (⟨#[60, 47]⟩ : ByteArray)) ++ a2) ++ (⟨#[62]⟩ : ByteArray))).size + 1 ≤ 9223372036854775807 then (if ((a1 ++ (((((((⟨#[60]⟩ : ByteArray) ++ a2) ++ (⟨#[62]⟩ : ByteArray)) ++ a0) ++ (⟨#[60, 47]⟩ : ByteArray)) ++ a2) ++ (⟨#[62]⟩ : ByteArray))) ++ (⟨#[60]⟩ : ByteArray)).size + a2.size ≤ 9223372036854775807 then (if (((a1 ++ (((((((⟨#[60]⟩ : ByteArray) ++ a2) ++ (⟨#[62]⟩ : ByteArray)) ++ a0) ++ (⟨#[60, 47]⟩ : ByteArray)) ++ a2) ++ (⟨#[62]⟩ : ByteArray))) ++ (⟨#[60]⟩ : ByteArray)) ++ a2).size + 3 ≤ 9223372036854775807 then ((tags_Check.f kj16 ((((a1 ++ (((((((⟨#[60]⟩ : ByteArray) ++ a2) ++ (⟨#[62]⟩ : ByteArray)) ++ a0) ++ (⟨#[60, 47]⟩ : ByteArray)) ++ a2) ++ (⟨#[62]⟩ : ByteArray))) ++ (⟨#[60]⟩ : ByteArray)) ++ a2) ++ (⟨#[32, 47, 62]⟩ : ByteArray))).bind fun t279 => (if t279 = true then (if a1.size + 1 ≤ 9223372036854775807 then (if (a1 ++ (⟨#[60]⟩ : ByteArray)).size + a2.size ≤ 9223372036854775807 then (if ((a1 ++ (⟨#[60]⟩ : ByteArray)) ++ a2).size + 1 ≤ 9223372036854775807 then (if (((a1 ++ (⟨#[60]⟩ : ByteArray)) ++ a2) ++ (⟨#[62]⟩ : ByteArray)).size + a0.size ≤ 9223372036854775807 then ((tags_Check.f kj16 ((((a1 ++ (⟨#[60]⟩ : ByteArray)) ++ a2) ++ (⟨#[62]⟩ : ByteArray)) ++ a0)).bind fun t280 => (if t280 = true then (none) else (if 2 + a2.size ≤ 9223372036854775807 then (if ((⟨#[60, 47]⟩ : ByteArray) ++ a2).size + 1 ≤ 9223372036854775807 then (if (((⟨#[60, 47]⟩ : ByteArray) ++ a2) ++ (⟨#[62]⟩ : ByteArray)).size + a0.size ≤ 9223372036854775807 then ((tags_Check.f kj16 ((((⟨#[60, 47]⟩ : ByteArray) ++ a2) ++ (⟨#[62]⟩ : ByteArray)) ++ a0)).bind fun t281 => (if t281 = true then (none) else (if (((((((⟨#[60]⟩ : ByteArray) ++ a2) ++ (⟨#[62]⟩ : ByteArray)) ++ a0) ++ (⟨#[60, 47]⟩ : ByteArray)) ++ a2) ++ (⟨#[62]⟩ : ByteArray)).size + a1.size ≤ 9223372036854775807 then ((tags_Text.f kj16 ((((((((⟨#[60]⟩ : ByteArray) ++ a2) ++ (⟨#[62]⟩ : ByteArray)) ++ a0) ++ (⟨#[60, 47]⟩ : ByteArray)) ++ a2) ++ (⟨#[62]⟩ : ByteArray)) ++ a1)).bind fun t282 => ((tags_Text.f kj16 a0).bind fun t283 => ((tags_Text.f kj16 a1).bind fun t284 => (if t283.size + t284.size ≤ 9223372036854775807 then (some (t282.toList == (t283 ++ t284).toList)) else (none))))) else (none)))) else (none)) else (none)) else (none)))) else (none)) else (none)) else (none)) else (none)) else (none))) else (none)) else (none)) else (none)) else (none)) else (none))) else (none))) else (none)) = some r := by rw [if_pos rfl] at H; exact H
                                  clear H
                                  have H := H1
                                  clear H1
                                  by_cases c32 : a0.size + a1.size ≤ 9223372036854775807
                                  · rw [if_pos c32] at H
                                    have c32b0 := eq_true c32
                                    have c32b1 : decide (a0.size + a1.size ≤ 9223372036854775807) = true := decide_eq_true c32
                                    try have c32b2 : (9223372036854775807 < a0.size + a1.size) = False := eq_false (Nat.not_lt.2 c32)
                                    replace H := Option.bind_eq_some_iff.mp H
                                    obtain ⟨t277, A330, H⟩ := H
                                    replace H : (if t277 = true then ((tags_Check.f kj16 (((((((⟨#[60]⟩ : ByteArray) ++ a2) ++ (⟨#[62]⟩ : ByteArray)) ++ a0) ++ (⟨#[60, 47]⟩ : ByteArray)) ++ a2) ++ (⟨#[62]⟩ : ByteArray))).bind fun t278 => (if t278 = true then (if a1.size + (((((((⟨#[60]⟩ : ByteArray) ++ a2) ++ (⟨#[62]⟩ : ByteArray)) ++ a0) ++ (⟨#[60, 47]⟩ : ByteArray)) ++ a2) ++ (⟨#[62]⟩ : ByteArray)).size ≤ 9223372036854775807 then (if (a1 ++ (((((((⟨#[60]⟩ : ByteArray) ++ a2) ++ (⟨#[62]⟩ : ByteArray)) ++ a0) ++ (⟨#[60, 47]⟩ : ByteArray)) ++ a2) ++ (⟨#[62]⟩ : ByteArray))).size + 1 ≤ 9223372036854775807 then (if ((a1 ++ (((((((⟨#[60]⟩ : ByteArray) ++ a2) ++ (⟨#[62]⟩ : ByteArray)) ++ a0) ++ (⟨#[60, 47]⟩ : ByteArray)) ++ a2) ++ (⟨#[62]⟩ : ByteArray))) ++ (⟨#[60]⟩ : ByteArray)).size + a2.size ≤ 9223372036854775807 then (if (((a1 ++ (((((((⟨#[60]⟩ : ByteArray) ++ a2) ++ (⟨#[62]⟩ : ByteArray)) ++ a0) ++ (⟨#[60, 47]⟩ : ByteArray)) ++ a2) ++ (⟨#[62]⟩ : ByteArray))) ++ (⟨#[60]⟩ : ByteArray)) ++ a2).size + 3 ≤ 9223372036854775807 then ((tags_Check.f kj16 ((((a1 ++ (((((((⟨#[60]⟩ : ByteArray) ++ a2) ++ (⟨#[62]⟩ : ByteArray)) ++ a0) ++ (⟨#[60, 47]⟩ : ByteArray)) ++ a2) ++ (⟨#[62]⟩ : ByteArray))) ++ (⟨#[60]⟩ : ByteArray)) ++ a2) ++ (⟨#[32, 47, 62]⟩ : ByteArray))).bind fun t279 => (if t279 = true then (if a1.size + 1 ≤ 9223372036854775807 then (if (a1 ++ (⟨#[60]⟩ : ByteArray)).size + a2.size ≤ 9223372036854775807 then (if ((a1 ++ (⟨#[60]⟩ : ByteArray)) ++ a2).size + 1 ≤ 9223372036854775807 then (if (((a1 ++ (⟨#[60]⟩ : ByteArray)) ++ a2) ++ (⟨#[62]⟩ : ByteArray)).size + a0.size ≤ 9223372036854775807 then ((tags_Check.f kj16 ((((a1 ++ (⟨#[60]⟩ : ByteArray)) ++ a2) ++ (⟨#[62]⟩ : ByteArray)) ++ a0)).bind fun t280 => (if t280 = true then (none) else (if 2 + a2.size ≤ 9223372036854775807 then (if ((⟨#[60, 47]⟩ : ByteArray) ++ a2).size + 1 ≤ 9223372036854775807 then (if (((⟨#[60, 47]⟩ : ByteArray) ++ a2) ++ (⟨#[62]⟩ : ByteArray)).size + a0.size ≤ 9223372036854775807 then ((tags_Check.f kj16 ((((⟨#[60, 47]⟩ : ByteArray) ++ a2) ++ (⟨#[62]⟩ : ByteArray)) ++ a0)).bind fun t281 => (if t281 = true then (none) else (if (((((((⟨#[60]⟩ : ByteArray) ++ a2) ++ (⟨#[62]⟩ : ByteArray)) ++ a0) ++ (⟨#[60, 47]⟩ : ByteArray)) ++ a2) ++ (⟨#[62]⟩ : ByteArray)).size + a1.size ≤ 9223372036854775807 then ((tags_Text.f kj16 ((((((((⟨#[60]⟩ : ByteArray) ++ a2) ++ (⟨#[62]⟩ : ByteArray)) ++ a0) ++ (⟨#[60, 47]⟩ : ByteArray)) ++ a2) ++ (⟨#[62]⟩ : ByteArray)) ++ a1)).bind fun t282 => ((tags_Text.f kj16 a0).bind fun t283 => ((tags_Text.f kj16 a1).bind fun t284 => (if t283.size + t284.size ≤ 9223372036854775807 then (some (t282.toList == (t283 ++ t284).toList)) else (none))))) else (none)))) else (none)) else (none)) else (none)))) else (none)) else (none)) else (none)) else (none)) else (none))) else (none)) else (none)) else (none)) else (none)) else (none))) else (none)) = some r := H
                                    have A33 := Aside0.mk A330
                                    clear A330
                                    by_cases c34 : t277 = true
                                    · subst c34
                                      have H1 : ((tags_Check.f kj16 (((((((⟨#[60]⟩ : ByteArray) ++ a2) ++ (⟨#[62]⟩ : ByteArray)) ++ a0) ++ (⟨#[60, 47]⟩ : ByteArray)) ++ a2) ++ (⟨#[62]⟩ : ByteArray))).bind fun t278 => (if t278 = true then (if a1.size + (((((((⟨#[60]⟩ : ByteArray) ++ a2) ++ (⟨#[62]⟩ : ByteArray)) ++ a0) ++ (⟨#[60, 47]⟩ : ByteArray)) ++ a2) ++ (⟨#[62]⟩ : ByteArray)).size ≤ 9223372036854775807 then (if (a1 ++ (((((((⟨#[60]⟩ : ByteArray) ++ a2) ++ (⟨#[62]⟩ : ByteArray)) ++ a0) ++ (⟨#[60, 47]⟩ : ByteArray)) ++ a2) ++ (⟨#[62]⟩ : ByteArray))).size + 1 ≤ 9223372036854775807 then (if ((a1 ++ (((((((⟨#[60]⟩ : ByteArray) ++ a2) ++ (⟨#[62]⟩ : ByteArray)) ++ a0) ++ (⟨#[60, 47]⟩ : ByteArray)) ++ a2) ++ (⟨#[62]⟩ : ByteArray))) ++ (⟨#[60]⟩ : ByteArray)).size + a2.size ≤ 9223372036854775807 then (if (((a1 ++ (((((((⟨#[60]⟩ : ByteArray) ++ a2) ++ (⟨#[62]⟩ : ByteArray)) ++ a0) ++ (⟨#[60, 47]⟩ : ByteArray)) ++ a2) ++ (⟨#[62]⟩ : ByteArray))) ++ (⟨#[60]⟩ : ByteArray)) ++ a2).size + 3 ≤ 9223372036854775807 then ((tags_Check.f kj16 ((((a1 ++ (((((((⟨#[60]⟩ : ByteArray) ++ a2) ++ (⟨#[62]⟩ : ByteArray)) ++ a0) ++ (⟨#[60, 47]⟩ : ByteArray)) ++ a2) ++ (⟨#[62]⟩ : ByteArray))) ++ (⟨#[60]⟩ : ByteArray)) ++ a2) ++ (⟨#[32, 47, 62]⟩ : ByteArray))).bind fun t279 => (if t279 = true then (if a1.size + 1 ≤ 9223372036854775807 then (if (a1 ++ (⟨#[60]⟩ : ByteArray)).size + a2.size ≤ 9223372036854775807 then (if ((a1 ++ (⟨#[60]⟩ : ByteArray)) ++ a2).size + 1 ≤ 9223372036854775807 then (if (((a1 ++ (⟨#[60]⟩ : ByteArray)) ++ a2) ++ (⟨#[62]⟩ : ByteArray)).size + a0.size ≤ 9223372036854775807 then ((tags_Check.f kj16 ((((a1 ++ (⟨#[60]⟩ : ByteArray)) ++ a2) ++ (⟨#[62]⟩ : ByteArray)) ++ a0)).bind fun t280 => (if t280 = true then (none) else (if 2 + a2.size ≤ 9223372036854775807 then (if ((⟨#[60, 47]⟩ : ByteArray) ++ a2).size + 1 ≤ 9223372036854775807 then (if (((⟨#[60, 47]⟩ : ByteArray) ++ a2) ++ (⟨#[62]⟩ : ByteArray)).size + a0.size ≤ 9223372036854775807 then ((tags_Check.f kj16 ((((⟨#[60, 47]⟩ : ByteArray) ++ a2) ++ (⟨#[62]⟩ : ByteArray)) ++ a0)).bind fun t281 => (if t281 = true then (none) else (if (((((((⟨#[60]⟩ : ByteArray) ++ a2) ++ (⟨#[62]⟩ : ByteArray)) ++ a0) ++ (⟨#[60, 47]⟩ : ByteArray)) ++ a2) ++ (⟨#[62]⟩ : ByteArray)).size + a1.size ≤ 9223372036854775807 then ((tags_Text.f kj16 ((((((((⟨#[60]⟩ : ByteArray) ++ a2) ++ (⟨#[62]⟩ : ByteArray)) ++ a0) ++ (⟨#[60, 47]⟩ : ByteArray)) ++ a2) ++ (⟨#[62]⟩ : ByteArray)) ++ a1)).bind fun t282 => ((tags_Text.f kj16 a0).bind fun t283 => ((tags_Text.f kj16 a1).bind fun t284 => (if t283.size + t284.size ≤ 9223372036854775807 then (some (t282.toList == (t283 ++ t284).toList)) else (none))))) else (none)))) else (none)) else (none)) else (none)))) else (none)) else (none)) else (none)) else (none)) else (none))) else (none)) else (none)) else (none)) else (none)) else (none))) = some r := by rw [if_pos rfl] at H; exact H
                                      clear H
                                      have H := H1
                                      clear H1
                                      replace H := Option.bind_eq_some_iff.mp H
                                      obtain ⟨t278, A350, H⟩ := H
                                      replace H : (if t278 = true then (if a1.size + (((((((⟨#[60]⟩ : ByteArray) ++ a2) ++ (⟨#[62]⟩ : ByteArray)) ++ a0) ++ (⟨#[60, 47]⟩ : ByteArray)) ++ a2) ++ (⟨#[62]⟩ : ByteArray)).size ≤ 9223372036854775807 then (if (a1 ++ (((((((⟨#[60]⟩ : ByteArray) ++ a2) ++ (⟨#[62]⟩ : ByteArray)) ++ a0) ++ (⟨#[60, 47]⟩ : ByteArray)) ++ a2) ++ (⟨#[62]⟩ : ByteArray))).size + 1 ≤ 9223372036854775807 then (if ((a1 ++ (((((((⟨#[60]⟩ : ByteArray) ++ a2) ++ (⟨#[62]⟩ : ByteArray)) ++ a0) ++ (⟨#[60, 47]⟩ : ByteArray)) ++ a2) ++ (⟨#[62]⟩ : ByteArray))) ++ (⟨#[60]⟩ : ByteArray)).size + a2.size ≤ 9223372036854775807 then (if (((a1 ++ (((((((⟨#[60]⟩ : ByteArray) ++ a2) ++ (⟨#[62]⟩ : ByteArray)) ++ a0) ++ (⟨#[60, 47]⟩ : ByteArray)) ++ a2) ++ (⟨#[62]⟩ : ByteArray))) ++ (⟨#[60]⟩ : ByteArray)) ++ a2).size + 3 ≤ 9223372036854775807 then ((tags_Check.f kj16 ((((a1 ++ (((((((⟨#[60]⟩ : ByteArray) ++ a2) ++ (⟨#[62]⟩ : ByteArray)) ++ a0) ++ (⟨#[60, 47]⟩ : ByteArray)) ++ a2) ++ (⟨#[62]⟩ : ByteArray))) ++ (⟨#[60]⟩ : ByteArray)) ++ a2) ++ (⟨#[32, 47, 62]⟩ : ByteArray))).bind fun t279 => (if t279 = true then (if a1.size + 1 ≤ 9223372036854775807 then (if (a1 ++ (⟨#[60]⟩ : ByteArray)).size + a2.size ≤ 9223372036854775807 then (if ((a1 ++ (⟨#[60]⟩ : ByteArray)) ++ a2).size + 1 ≤ 9223372036854775807 then (if (((a1 ++ (⟨#[60]⟩ : ByteArray)) ++ a2) ++ (⟨#[62]⟩ : ByteArray)).size + a0.size ≤ 9223372036854775807 then ((tags_Check.f kj16 ((((a1 ++ (⟨#[60]⟩ : ByteArray)) ++ a2) ++ (⟨#[62]⟩ : ByteArray)) ++ a0)).bind fun t280 => (if t280 = true then (none) else (if 2 + a2.size ≤ 9223372036854775807 then (if ((⟨#[60, 47]⟩ : ByteArray) ++ a2).size + 1 ≤ 9223372036854775807 then (if (((⟨#[60, 47]⟩ : ByteArray) ++ a2) ++ (⟨#[62]⟩ : ByteArray)).size + a0.size ≤ 9223372036854775807 then ((tags_Check.f kj16 ((((⟨#[60, 47]⟩ : ByteArray) ++ a2) ++ (⟨#[62]⟩ : ByteArray)) ++ a0)).bind fun t281 => (if t281 = true then (none) else (if (((((((⟨#[60]⟩ : ByteArray) ++ a2) ++ (⟨#[62]⟩ : ByteArray)) ++ a0) ++ (⟨#[60, 47]⟩ : ByteArray)) ++ a2) ++ (⟨#[62]⟩ : ByteArray)).size + a1.size ≤ 9223372036854775807 then ((tags_Text.f kj16 ((((((((⟨#[60]⟩ : ByteArray) ++ a2) ++ (⟨#[62]⟩ : ByteArray)) ++ a0) ++ (⟨#[60, 47]⟩ : ByteArray)) ++ a2) ++ (⟨#[62]⟩ : ByteArray)) ++ a1)).bind fun t282 => ((tags_Text.f kj16 a0).bind fun t283 => ((tags_Text.f kj16 a1).bind fun t284 => (if t283.size + t284.size ≤ 9223372036854775807 then (some (t282.toList == (t283 ++ t284).toList)) else (none))))) else (none)))) else (none)) else (none)) else (none)))) else (none)) else (none)) else (none)) else (none)) else (none))) else (none)) else (none)) else (none)) else (none)) else (none)) = some r := H
                                      have A35 := Aside0.mk A350
                                      clear A350
                                      by_cases c36 : t278 = true
                                      · subst c36
                                        have H1 : (if a1.size + (((((((⟨#[60]⟩ : ByteArray) ++ a2) ++ (⟨#[62]⟩ : ByteArray)) ++ a0) ++ (⟨#[60, 47]⟩ : ByteArray)) ++ a2) ++ (⟨#[62]⟩ : ByteArray)).size ≤ 9223372036854775807 then (if (a1 ++ (((((((⟨#[60]⟩ : ByteArray) ++ a2) ++ (⟨#[62]⟩ : ByteArray)) ++ a0) ++ (⟨#[60, 47]⟩ : ByteArray)) ++ a2) ++ (⟨#[62]⟩ : ByteArray))).size + 1 ≤ 9223372036854775807 then (if ((a1 ++ (((((((⟨#[60]⟩ : ByteArray) ++ a2) ++ (⟨#[62]⟩ : ByteArray)) ++ a0) ++ (⟨#[60, 47]⟩ : ByteArray)) ++ a2) ++ (⟨#[62]⟩ : ByteArray))) ++ (⟨#[60]⟩ : ByteArray)).size + a2.size ≤ 9223372036854775807 then (if (((a1 ++ (((((((⟨#[60]⟩ : ByteArray) ++ a2) ++ (⟨#[62]⟩ : ByteArray)) ++ a0) ++ (⟨#[60, 47]⟩ : ByteArray)) ++ a2) ++ (⟨#[62]⟩ : ByteArray))) ++ (⟨#[60]⟩ : ByteArray)) ++ a2).size + 3 ≤ 9223372036854775807 then ((tags_Check.f kj16 ((((a1 ++ (((((((⟨#[60]⟩ : ByteArray) ++ a2) ++ (⟨#[62]⟩ : ByteArray)) ++ a0) ++ (⟨#[60, 47]⟩ : ByteArray)) ++ a2) ++ (⟨#[62]⟩ : ByteArray))) ++ (⟨#[60]⟩ : ByteArray)) ++ a2) ++ (⟨#[32, 47, 62]⟩ : ByteArray))).bind fun t279 => (if t279 = true then (if a1.size + 1 ≤ 9223372036854775807 then (if (a1 ++ (⟨#[60]⟩ : ByteArray)).size + a2.size ≤ 9223372036854775807 then (if ((a1 ++ (⟨#[60]⟩ : ByteArray)) ++ a2).size + 1 ≤ 9223372036854775807 then (if (((a1 ++ (⟨#[60]⟩ : ByteArray)) ++ a2) ++ (⟨#[62]⟩ : ByteArray)).size + a0.size ≤ 9223372036854775807 then ((tags_Check.f kj16 ((((a1 ++ (⟨#[60]⟩ : ByteArray)) ++ a2) ++ (⟨#[62]⟩ : ByteArray)) ++ a0)).bind fun t280 => (if t280 = true then (none) else (if 2 + a2.size ≤ 9223372036854775807 then (if ((⟨#[60, 47]⟩ : ByteArray) ++ a2).size + 1 ≤ 9223372036854775807 then (if (((⟨#[60, 47]⟩ : ByteArray) ++ a2) ++ (⟨#[62]⟩ : ByteArray)).size + a0.size ≤ 9223372036854775807 then ((tags_Check.f kj16 ((((⟨#[60, 47]⟩ : ByteArray) ++ a2) ++ (⟨#[62]⟩ : ByteArray)) ++ a0)).bind fun t281 => (if t281 = true then (none) else (if (((((((⟨#[60]⟩ : ByteArray) ++ a2) ++ (⟨#[62]⟩ : ByteArray)) ++ a0) ++ (⟨#[60, 47]⟩ : ByteArray)) ++ a2) ++ (⟨#[62]⟩ : ByteArray)).size + a1.size ≤ 9223372036854775807 then ((tags_Text.f kj16 ((((((((⟨#[60]⟩ : ByteArray) ++ a2) ++ (⟨#[62]⟩ : ByteArray)) ++ a0) ++ (⟨#[60, 47]⟩ : ByteArray)) ++ a2) ++ (⟨#[62]⟩ : ByteArray)) ++ a1)).bind fun t282 => ((tags_Text.f kj16 a0).bind fun t283 => ((tags_Text.f kj16 a1).bind fun t284 => (if t283.size + t284.size ≤ 9223372036854775807 then (some (t282.toList == (t283 ++ t284).toList)) else (none))))) else (none)))) else (none)) else (none)) else (none)))) else (none)) else (none)) else (none)) else (none)) else (none))) else (none)) else (none)) else (none)) else (none)) = some r := by rw [if_pos rfl] at H; exact H
                                        clear H
                                        have H := H1
                                        clear H1
                                        by_cases c37 : a1.size + (((((((⟨#[60]⟩ : ByteArray) ++ a2) ++ (⟨#[62]⟩ : ByteArray)) ++ a0) ++ (⟨#[60, 47]⟩ : ByteArray)) ++ a2) ++ (⟨#[62]⟩ : ByteArray)).size ≤ 9223372036854775807
                                        · rw [if_pos c37] at H
                                          have c37b0 := eq_true c37
                                          have c37b1 : decide (a1.size + (((((((⟨#[60]⟩ : ByteArray) ++ a2) ++ (⟨#[62]⟩ : ByteArray)) ++ a0) ++ (⟨#[60, 47]⟩ : ByteArray)) ++ a2) ++ (⟨#[62]⟩ : ByteArray)).size ≤ 9223372036854775807) = true := decide_eq_true c37
                                          have c37b4 := c37
                                          (try simp only [ByteArray.size_append, ByteArray.size_extract, Nat.min_self] at c37b4)
                                          (try have c37b5 := Nat.not_lt.2 c37b4)
                                          (try have c37b7 : ¬ 9223372036854775807 < a1.size + (1 + a2.size + 1 + a0.size + 2 + a2.size + 1) := by have hh := c37; simp only [ByteArray.size_append] at hh; exact Nat.not_lt.2 hh)
                                          try have c37b2 : (9223372036854775807 < a1.size + (((((((⟨#[60]⟩ : ByteArray) ++ a2) ++ (⟨#[62]⟩ : ByteArray)) ++ a0) ++ (⟨#[60, 47]⟩ : ByteArray)) ++ a2) ++ (⟨#[62]⟩ : ByteArray)).size) = False := eq_false (Nat.not_lt.2 c37)
                                          by_cases c38 : (a1 ++ (((((((⟨#[60]⟩ : ByteArray) ++ a2) ++ (⟨#[62]⟩ : ByteArray)) ++ a0) ++ (⟨#[60, 47]⟩ : ByteArray)) ++ a2) ++ (⟨#[62]⟩ : ByteArray))).size + 1 ≤ 9223372036854775807
                                          · rw [if_pos c38] at H
                                            have c38b0 := eq_true c38
                                            have c38b1 : decide ((a1 ++ (((((((⟨#[60]⟩ : ByteArray) ++ a2) ++ (⟨#[62]⟩ : ByteArray)) ++ a0) ++ (⟨#[60, 47]⟩ : ByteArray)) ++ a2) ++ (⟨#[62]⟩ : ByteArray))).size + 1 ≤ 9223372036854775807) = true := decide_eq_true c38
                                            have c38b4 := c38
                                            (try simp only [ByteArray.size_append, ByteArray.size_extract, Nat.min_self] at c38b4)
                                            (try have c38b5 := Nat.not_lt.2 c38b4)
                                            (try have c38b7 : ¬ 9223372036854775807 < a1.size + (1 + a2.size + 1 + a0.size + 2 + a2.size + 1) + 1 := by have hh := c38; simp only [ByteArray.size_append] at hh; exact Nat.not_lt.2 hh)
                                            try have c38b2 : (9223372036854775807 < (a1 ++ (((((((⟨#[60]⟩ : ByteArray) ++ a2) ++ (⟨#[62]⟩ : ByteArray)) ++ a0) ++ (⟨#[60, 47]⟩ : ByteArray)) ++ a2) ++ (⟨#[62]⟩ : ByteArray))).size + 1) = False := eq_false (Nat.not_lt.2 c38)
                                            by_cases c39 : ((a1 ++ (((((((⟨#[60]⟩ : ByteArray) ++ a2) ++ (⟨#[62]⟩ : ByteArray)) ++ a0) ++ (⟨#[60, 47]⟩ : ByteArray)) ++ a2) ++ (⟨#[62]⟩ : ByteArray))) ++ (⟨#[60]⟩ : ByteArray)).size + a2.size ≤ 9223372036854775807
                                            · rw [if_pos c39] at H
                                              have c39b0 := eq_true c39
                                              have c39b1 : decide (((a1 ++ (((((((⟨#[60]⟩ : ByteArray) ++ a2) ++ (⟨#[62]⟩ : ByteArray)) ++ a0) ++ (⟨#[60, 47]⟩ : ByteArray)) ++ a2) ++ (⟨#[62]⟩ : ByteArray))) ++ (⟨#[60]⟩ : ByteArray)).size + a2.size ≤ 9223372036854775807) = true := decide_eq_true c39
                                              have c39b4 := c39
                                              (try simp only [ByteArray.size_append, ByteArray.size_extract, Nat.min_self] at c39b4)
                                              (try have c39b5 := Nat.not_lt.2 c39b4)
                                              (try have c39b7 : ¬ 9223372036854775807 < a1.size + (1 + a2.size + 1 + a0.size + 2 + a2.size + 1) + 1 + a2.size := by have hh := c39; simp only [ByteArray.size_append] at hh; exact Nat.not_lt.2 hh)
                                              try have c39b2 : (9223372036854775807 < ((a1 ++ (((((((⟨#[60]⟩ : ByteArray) ++ a2) ++ (⟨#[62]⟩ : ByteArray)) ++ a0) ++ (⟨#[60, 47]⟩ : ByteArray)) ++ a2) ++ (⟨#[62]⟩ : ByteArray))) ++ (⟨#[60]⟩ : ByteArray)).size + a2.size) = False := eq_false (Nat.not_lt.2 c39)
                                              by_cases c40 : (((a1 ++ (((((((⟨#[60]⟩ : ByteArray) ++ a2) ++ (⟨#[62]⟩ : ByteArray)) ++ a0) ++ (⟨#[60, 47]⟩ : ByteArray)) ++ a2) ++ (⟨#[62]⟩ : ByteArray))) ++ (⟨#[60]⟩ : ByteArray)) ++ a2).size + 3 ≤ 9223372036854775807
                                              · rw [if_pos c40] at H
                                                have c40b0 := eq_true c40
                                                have c40b1 : decide ((((a1 ++ (((((((⟨#[60]⟩ : ByteArray) ++ a2) ++ (⟨#[62]⟩ : ByteArray)) ++ a0) ++ (⟨#[60, 47]⟩ : ByteArray)) ++ a2) ++ (⟨#[62]⟩ : ByteArray))) ++ (⟨#[60]⟩ : ByteArray)) ++ a2).size + 3 ≤ 9223372036854775807) = true := decide_eq_true c40
                                                have c40b4 := c40
                                                (try simp only [ByteArray.size_append, ByteArray.size_extract, Nat.min_self] at c40b4)
                                                (try have c40b5 := Nat.not_lt.2 c40b4)
                                                (try have c40b7 : ¬ 9223372036854775807 < a1.size + (1 + a2.size + 1 + a0.size + 2 + a2.size + 1) + 1 + a2.size + 3 := by have hh := c40; simp only [ByteArray.size_append] at hh; exact Nat.not_lt.2 hh)
                                                try have c40b2 : (9223372036854775807 < (((a1 ++ (((((((⟨#[60]⟩ : ByteArray) ++ a2) ++ (⟨#[62]⟩ : ByteArray)) ++ a0) ++ (⟨#[60, 47]⟩ : ByteArray)) ++ a2) ++ (⟨#[62]⟩ : ByteArray))) ++ (⟨#[60]⟩ : ByteArray)) ++ a2).size + 3) = False := eq_false (Nat.not_lt.2 c40)
                                                replace H := Option.bind_eq_some_iff.mp H
                                                obtain ⟨t279, A410, H⟩ := H
                                                replace H : (if t279 = true then (if a1.size + 1 ≤ 9223372036854775807 then (if (a1 ++ (⟨#[60]⟩ : ByteArray)).size + a2.size ≤ 9223372036854775807 then (if ((a1 ++ (⟨#[60]⟩ : ByteArray)) ++ a2).size + 1 ≤ 9223372036854775807 then (if (((a1 ++ (⟨#[60]⟩ : ByteArray)) ++ a2) ++ (⟨#[62]⟩ : ByteArray)).size + a0.size ≤ 9223372036854775807 then ((tags_Check.f kj16 ((((a1 ++ (⟨#[60]⟩ : ByteArray)) ++ a2) ++ (⟨#[62]⟩ : ByteArray)) ++ a0)).bind fun t280 => (if t280 = true then (none) else (if 2 + a2.size ≤ 9223372036854775807 then (if ((⟨#[60, 47]⟩ : ByteArray) ++ a2).size + 1 ≤ 9223372036854775807 then (if (((⟨#[60, 47]⟩ : ByteArray) ++ a2) ++ (⟨#[62]⟩ : ByteArray)).size + a0.size ≤ 9223372036854775807 then ((tags_Check.f kj16 ((((⟨#[60, 47]⟩ : ByteArray) ++ a2) ++ (⟨#[62]⟩ : ByteArray)) ++ a0)).bind fun t281 => (if t281 = true then (none) else (if (((((((⟨#[60]⟩ : ByteArray) ++ a2) ++ (⟨#[62]⟩ : ByteArray)) ++ a0) ++ (⟨#[60, 47]⟩ : ByteArray)) ++ a2) ++ (⟨#[62]⟩ : ByteArray)).size + a1.size ≤ 9223372036854775807 then ((tags_Text.f kj16 ((((((((⟨#[60]⟩ : ByteArray) ++ a2) ++ (⟨#[62]⟩ : ByteArray)) ++ a0) ++ (⟨#[60, 47]⟩ : ByteArray)) ++ a2) ++ (⟨#[62]⟩ : ByteArray)) ++ a1)).bind fun t282 => ((tags_Text.f kj16 a0).bind fun t283 => ((tags_Text.f kj16 a1).bind fun t284 => (if t283.size + t284.size ≤ 9223372036854775807 then (some (t282.toList == (t283 ++ t284).toList)) else (none))))) else (none)))) else (none)) else (none)) else (none)))) else (none)) else (none)) else (none)) else (none)) else (none)) = some r := H
                                                have A41 := Aside0.mk A410
                                                clear A410
                                                by_cases c42 : t279 = true
                                                · subst c42
                                                  have H1 : (if a1.size + 1 ≤ 9223372036854775807 then (if (a1 ++ (⟨#[60]⟩ : ByteArray)).size + a2.size ≤ 9223372036854775807 then (if ((a1 ++ (⟨#[60]⟩ : ByteArray)) ++ a2).size + 1 ≤ 9223372036854775807 then (if (((a1 ++ (⟨#[60]⟩ : ByteArray)) ++ a2) ++ (⟨#[62]⟩ : ByteArray)).size + a0.size ≤ 9223372036854775807 then ((tags_Check.f kj16 ((((a1 ++ (⟨#[60]⟩ : ByteArray)) ++ a2) ++ (⟨#[62]⟩ : ByteArray)) ++ a0)).bind fun t280 => (if t280 = true then (none) else (if 2 + a2.size ≤ 9223372036854775807 then (if ((⟨#[60, 47]⟩ : ByteArray) ++ a2).size + 1 ≤ 9223372036854775807 then (if (((⟨#[60, 47]⟩ : ByteArray) ++ a2) ++ (⟨#[62]⟩ : ByteArray)).size + a0.size ≤ 9223372036854775807 then ((tags_Check.f kj16 ((((⟨#[60, 47]⟩ : ByteArray) ++ a2) ++ (⟨#[62]⟩ : ByteArray)) ++ a0)).bind fun t281 => (if t281 = true then (none) else (if (((((((⟨#[60]⟩ : ByteArray) ++ a2) ++ (⟨#[62]⟩ : ByteArray)) ++ a0) ++ (⟨#[60, 47]⟩ : ByteArray)) ++ a2) ++ (⟨#[62]⟩ : ByteArray)).size + a1.size ≤ 9223372036854775807 then ((tags_Text.f kj16 ((((((((⟨#[60]⟩ : ByteArray) ++ a2) ++ (⟨#[62]⟩ : ByteArray)) ++ a0) ++ (⟨#[60, 47]⟩ : ByteArray)) ++ a2) ++ (⟨#[62]⟩ : ByteArray)) ++ a1)).bind fun t282 => ((tags_Text.f kj16 a0).bind fun t283 => ((tags_Text.f kj16 a1).bind fun t284 => (if t283.size + t284.size ≤ 9223372036854775807 then (some (t282.toList == (t283 ++ t284).toList)) else (none))))) else (none)))) else (none)) else (none)) else (none)))) else (none)) else (none)) else (none)) else (none)) = some r := by rw [if_pos rfl] at H; exact H
                                                  clear H
                                                  have H := H1
                                                  clear H1
                                                  by_cases c43 : a1.size + 1 ≤ 9223372036854775807
                                                  · rw [if_pos c43] at H
                                                    have c43b0 := eq_true c43
                                                    have c43b1 : decide (a1.size + 1 ≤ 9223372036854775807) = true := decide_eq_true c43
                                                    try have c43b2 : (9223372036854775807 < a1.size + 1) = False := eq_false (Nat.not_lt.2 c43)
                                                    by_cases c44 : (a1 ++ (⟨#[60]⟩ : ByteArray)).size + a2.size ≤ 9223372036854775807
                                                    · rw [if_pos c44] at H
                                                      have c44b0 := eq_true c44
                                                      have c44b1 : decide ((a1 ++ (⟨#[60]⟩ : ByteArray)).size + a2.size ≤ 9223372036854775807) = true := decide_eq_true c44
                                                      have c44b4 := c44
                                                      (try simp only [ByteArray.size_append, ByteArray.size_extract, Nat.min_self] at c44b4)
                                                      (try have c44b5 := Nat.not_lt.2 c44b4)
                                                      (try have c44b7 : ¬ 9223372036854775807 < a1.size + 1 + a2.size := by have hh := c44; simp only [ByteArray.size_append] at hh; exact Nat.not_lt.2 hh)
                                                      try have c44b2 : (9223372036854775807 < (a1 ++ (⟨#[60]⟩ : ByteArray)).size + a2.size) = False := eq_false (Nat.not_lt.2 c44)
                                                      by_cases c45 : ((a1 ++ (⟨#[60]⟩ : ByteArray)) ++ a2).size + 1 ≤ 9223372036854775807
                                                      · rw [if_pos c45] at H
                                                        have c45b0 := eq_true c45
                                                        have c45b1 : decide (((a1 ++ (⟨#[60]⟩ : ByteArray)) ++ a2).size + 1 ≤ 9223372036854775807) = true := decide_eq_true c45
                                                        have c45b4 := c45
                                                        (try simp only [ByteArray.size_append, ByteArray.size_extract, Nat.min_self] at c45b4)
                                                        (try have c45b5 := Nat.not_lt.2 c45b4)
                                                        (try have c45b7 : ¬ 9223372036854775807 < a1.size + 1 + a2.size + 1 := by have hh := c45; simp only [ByteArray.size_append] at hh; exact Nat.not_lt.2 hh)
                                                        try have c45b2 : (9223372036854775807 < ((a1 ++ (⟨#[60]⟩ : ByteArray)) ++ a2).size + 1) = False := eq_false (Nat.not_lt.2 c45)
                                                        by_cases c46 : (((a1 ++ (⟨#[60]⟩ : ByteArray)) ++ a2) ++ (⟨#[62]⟩ : ByteArray)).size + a0.size ≤ 9223372036854775807
                                                        · rw [if_pos c46] at H
                                                          have c46b0 := eq_true c46
                                                          have c46b1 : decide ((((a1 ++ (⟨#[60]⟩ : ByteArray)) ++ a2) ++ (⟨#[62]⟩ : ByteArray)).size + a0.size ≤ 9223372036854775807) = true := decide_eq_true c46
                                                          have c46b4 := c46
                                                          (try simp only [ByteArray.size_append, ByteArray.size_extract, Nat.min_self] at c46b4)
                                                          (try have c46b5 := Nat.not_lt.2 c46b4)
                                                          (try have c46b7 : ¬ 9223372036854775807 < a1.size + 1 + a2.size + 1 + a0.size := by have hh := c46; simp only [ByteArray.size_append] at hh; exact Nat.not_lt.2 hh)
                                                          try have c46b2 : (9223372036854775807 < (((a1 ++ (⟨#[60]⟩ : ByteArray)) ++ a2) ++ (⟨#[62]⟩ : ByteArray)).size + a0.size) = False := eq_false (Nat.not_lt.2 c46)
                                                          replace H := Option.bind_eq_some_iff.mp H
                                                          obtain ⟨t280, A470, H⟩ := H
                                                          replace H : (if t280 = true then (none) else (if 2 + a2.size ≤ 9223372036854775807 then (if ((⟨#[60, 47]⟩ : ByteArray) ++ a2).size + 1 ≤ 9223372036854775807 then (if (((⟨#[60, 47]⟩ : ByteArray) ++ a2) ++ (⟨#[62]⟩ : ByteArray)).size + a0.size ≤ 9223372036854775807 then ((tags_Check.f kj16 ((((⟨#[60, 47]⟩ : ByteArray) ++ a2) ++ (⟨#[62]⟩ : ByteArray)) ++ a0)).bind fun t281 => (if t281 = true then (none) else (if (((((((⟨#[60]⟩ : ByteArray) ++ a2) ++ (⟨#[62]⟩ : ByteArray)) ++ a0) ++ (⟨#[60, 47]⟩ : ByteArray)) ++ a2) ++ (⟨#[62]⟩ : ByteArray)).size + a1.size ≤ 9223372036854775807 then ((tags_Text.f kj16 ((((((((⟨#[60]⟩ : ByteArray) ++ a2) ++ (⟨#[62]⟩ : ByteArray)) ++ a0) ++ (⟨#[60, 47]⟩ : ByteArray)) ++ a2) ++ (⟨#[62]⟩ : ByteArray)) ++ a1)).bind fun t282 => ((tags_Text.f kj16 a0).bind fun t283 => ((tags_Text.f kj16 a1).bind fun t284 => (if t283.size + t284.size ≤ 9223372036854775807 then (some (t282.toList == (t283 ++ t284).toList)) else (none))))) else (none)))) else (none)) else (none)) else (none))) = some r := H
                                                          have A47 := Aside0.mk A470
                                                          clear A470
                                                          by_cases c48 : t280 = true
                                                          · subst c48
                                                            have H1 : (none) = some r := by rw [if_pos rfl] at H; exact H
                                                            cases H1
                                                          · replace c48 := Bool.eq_false_iff.mpr c48
                                                            subst c48
                                                            have H1 : (if 2 + a2.size ≤ 9223372036854775807 then (if ((⟨#[60, 47]⟩ : ByteArray) ++ a2).size + 1 ≤ 9223372036854775807 then (if (((⟨#[60, 47]⟩ : ByteArray) ++ a2) ++ (⟨#[62]⟩ : ByteArray)).size + a0.size ≤ 9223372036854775807 then ((tags_Check.f kj16 ((((⟨#[60, 47]⟩ : ByteArray) ++ a2) ++ (⟨#[62]⟩ : ByteArray)) ++ a0)).bind fun t281 => (if t281 = true then (none) else (if (((((((⟨#[60]⟩ : ByteArray) ++ a2) ++ (⟨#[62]⟩ : ByteArray)) ++ a0) ++ (⟨#[60, 47]⟩ : ByteArray)) ++ a2) ++ (⟨#[62]⟩ : ByteArray)).size + a1.size ≤ 9223372036854775807 then ((tags_Text.f kj16 ((((((((⟨#[60]⟩ : ByteArray) ++ a2) ++ (⟨#[62]⟩ : ByteArray)) ++ a0) ++ (⟨#[60, 47]⟩ : ByteArray)) ++ a2) ++ (⟨#[62]⟩ : ByteArray)) ++ a1)).bind fun t282 => ((tags_Text.f kj16 a0).bind fun t283 => ((tags_Text.f kj16 a1).bind fun t284 => (if t283.size + t284.size ≤ 9223372036854775807 then (some (t282.toList == (t283 ++ t284).toList)) else (none))))) else (none)))) else (none)) else (none)) else (none)) = some r := by rw [if_neg (show ¬ (false = true) by decide)] at H; exact H
                                                            clear H
                                                            have H := H1
                                                            clear H1
                                                            by_cases c53 : 2 + a2.size ≤ 9223372036854775807
                                                            · rw [if_pos c53] at H
                                                              have c53b0 := eq_true c53
                                                              have c53b1 : decide (2 + a2.size ≤ 9223372036854775807) = true := decide_eq_true c53
                                                              try have c53b2 : (9223372036854775807 < 2 + a2.size) = False := eq_false (Nat.not_lt.2 c53)
                                                              by_cases c54 : ((⟨#[60, 47]⟩ : ByteArray) ++ a2).size + 1 ≤ 9223372036854775807
                                                              · rw [if_pos c54] at H
                                                                have c54b0 := eq_true c54
                                                                have c54b1 : decide (((⟨#[60, 47]⟩ : ByteArray) ++ a2).size + 1 ≤ 9223372036854775807) = true := decide_eq_true c54
                                                                have c54b4 := c54
                                                                (try simp only [ByteArray.size_append, ByteArray.size_extract, Nat.min_self] at c54b4)
                                                                (try have c54b5 := Nat.not_lt.2 c54b4)
                                                                (try have c54b7 : ¬ 9223372036854775807 < 2 + a2.size + 1 := by have hh := c54; simp only [ByteArray.size_append] at hh; exact Nat.not_lt.2 hh)
                                                                try have c54b2 : (9223372036854775807 < ((⟨#[60, 47]⟩ : ByteArray) ++ a2).size + 1) = False := eq_false (Nat.not_lt.2 c54)
                                                                by_cases c55 : (((⟨#[60, 47]⟩ : ByteArray) ++ a2) ++ (⟨#[62]⟩ : ByteArray)).size + a0.size ≤ 9223372036854775807
                                                                · rw [if_pos c55] at H
                                                                  have c55b0 := eq_true c55
                                                                  have c55b1 : decide ((((⟨#[60, 47]⟩ : ByteArray) ++ a2) ++ (⟨#[62]⟩ : ByteArray)).size + a0.size ≤ 9223372036854775807) = true := decide_eq_true c55
                                                                  have c55b4 := c55
                                                                  (try simp only [ByteArray.size_append, ByteArray.size_extract, Nat.min_self] at c55b4)
                                                                  (try have c55b5 := Nat.not_lt.2 c55b4)
                                                                  (try have c55b7 : ¬ 9223372036854775807 < 2 + a2.size + 1 + a0.size := by have hh := c55; simp only [ByteArray.size_append] at hh; exact Nat.not_lt.2 hh)
                                                                  try have c55b2 : (9223372036854775807 < (((⟨#[60, 47]⟩ : ByteArray) ++ a2) ++ (⟨#[62]⟩ : ByteArray)).size + a0.size) = False := eq_false (Nat.not_lt.2 c55)
                                                                  replace H := Option.bind_eq_some_iff.mp H
                                                                  obtain ⟨t281, A560, H⟩ := H
                                                                  replace H : (if t281 = true then (none) else (if (((((((⟨#[60]⟩ : ByteArray) ++ a2) ++ (⟨#[62]⟩ : ByteArray)) ++ a0) ++ (⟨#[60, 47]⟩ : ByteArray)) ++ a2) ++ (⟨#[62]⟩ : ByteArray)).size + a1.size ≤ 9223372036854775807 then ((tags_Text.f kj16 ((((((((⟨#[60]⟩ : ByteArray) ++ a2) ++ (⟨#[62]⟩ : ByteArray)) ++ a0) ++ (⟨#[60, 47]⟩ : ByteArray)) ++ a2) ++ (⟨#[62]⟩ : ByteArray)) ++ a1)).bind fun t282 => ((tags_Text.f kj16 a0).bind fun t283 => ((tags_Text.f kj16 a1).bind fun t284 => (if t283.size + t284.size ≤ 9223372036854775807 then (some (t282.toList == (t283 ++ t284).toList)) else (none))))) else (none))) = some r := H
                                                                  have A56 := Aside0.mk A560
                                                                  clear A560
                                                                  by_cases c57 : t281 = true
                                                                  · subst c57
                                                                    have H1 : (none) = some r := by rw [if_pos rfl] at H; exact H
                                                                    cases H1
                                                                  · replace c57 := Bool.eq_false_iff.mpr c57
                                                                    subst c57
                                                                    have H1 : (if (((((((⟨#[60]⟩ : ByteArray) ++ a2) ++ (⟨#[62]⟩ : ByteArray)) ++ a0) ++ (⟨#[60, 47]⟩ : ByteArray)) ++ a2) ++ (⟨#[62]⟩ : ByteArray)).size + a1.size ≤ 9223372036854775807 then ((tags_Text.f kj16 ((((((((⟨#[60]⟩ : ByteArray) ++ a2) ++ (⟨#[62]⟩ : ByteArray)) ++ a0) ++ (⟨#[60, 47]⟩ : ByteArray)) ++ a2) ++ (⟨#[62]⟩ : ByteArray)) ++ a1)).bind fun t282 => ((tags_Text.f kj16 a0).bind fun t283 => ((tags_Text.f kj16 a1).bind fun t284 => (if t283.size + t284.size ≤ 9223372036854775807 then (some (t282.toList == (t283 ++ t284).toList)) else (none))))) else (none)) = some r := by rw [if_neg (show ¬ (false = true) by decide)] at H; exact H
                                                                    clear H
                                                                    have H := H1
                                                                    clear H1
                                                                    by_cases c63 : (((((((⟨#[60]⟩ : ByteArray) ++ a2) ++ (⟨#[62]⟩ : ByteArray)) ++ a0) ++ (⟨#[60, 47]⟩ : ByteArray)) ++ a2) ++ (⟨#[62]⟩ : ByteArray)).size + a1.size ≤ 9223372036854775807
                                                                    · rw [if_pos c63] at H
                                                                      have c63b0 := eq_true c63
                                                                      have c63b1 : decide ((((((((⟨#[60]⟩ : ByteArray) ++ a2) ++ (⟨#[62]⟩ : ByteArray)) ++ a0) ++ (⟨#[60, 47]⟩ : ByteArray)) ++ a2) ++ (⟨#[62]⟩ : ByteArray)).size + a1.size ≤ 9223372036854775807) = true := decide_eq_true c63
                                                                      have c63b4 := c63
                                                                      (try simp only [ByteArray.size_append, ByteArray.size_extract, Nat.min_self] at c63b4)
                                                                      (try have c63b5 := Nat.not_lt.2 c63b4)
                                                                      (try have c63b7 : ¬ 9223372036854775807 < 1 + a2.size + 1 + a0.size + 2 + a2.size + 1 + a1.size := by have hh := c63; simp only [ByteArray.size_append] at hh; exact Nat.not_lt.2 hh)
                                                                      try have c63b2 : (9223372036854775807 < (((((((⟨#[60]⟩ : ByteArray) ++ a2) ++ (⟨#[62]⟩ : ByteArray)) ++ a0) ++ (⟨#[60, 47]⟩ : ByteArray)) ++ a2) ++ (⟨#[62]⟩ : ByteArray)).size + a1.size) = False := eq_false (Nat.not_lt.2 c63)
                                                                      replace H := Option.bind_eq_some_iff.mp H
                                                                      obtain ⟨t282, A640, H⟩ := H
                                                                      replace H : ((tags_Text.f kj16 a0).bind fun t283 => ((tags_Text.f kj16 a1).bind fun t284 => (if t283.size + t284.size ≤ 9223372036854775807 then (some (t282.toList == (t283 ++ t284).toList)) else (none)))) = some r := H
                                                                      have A64 := Aside0.mk A640
                                                                      clear A640
                                                                      replace H := Option.bind_eq_some_iff.mp H
                                                                      obtain ⟨t283, A650, H⟩ := H
                                                                      replace H : ((tags_Text.f kj16 a1).bind fun t284 => (if t283.size + t284.size ≤ 9223372036854775807 then (some (t282.toList == (t283 ++ t284).toList)) else (none))) = some r := H
                                                                      have A65 := Aside0.mk A650
                                                                      clear A650
                                                                      replace H := Option.bind_eq_some_iff.mp H
                                                                      obtain ⟨t284, A660, H⟩ := H
                                                                      replace H : (if t283.size + t284.size ≤ 9223372036854775807 then (some (t282.toList == (t283 ++ t284).toList)) else (none)) = some r := H
                                                                      have A66 := Aside0.mk A660
                                                                      clear A660
                                                                      by_cases c67 : t283.size + t284.size ≤ 9223372036854775807
                                                                      · rw [if_pos c67] at H
                                                                        have c67b0 := eq_true c67
                                                                        have c67b1 : decide (t283.size + t284.size ≤ 9223372036854775807) = true := decide_eq_true c67
                                                                        try have c67b2 : (9223372036854775807 < t283.size + t284.size) = False := eq_false (Nat.not_lt.2 c67)
                                                                        obtain rfl := Option.some.inj H
                                                                        go_wp2_with (first | (go_at_call 12; (with_reducible refine (tags_Check.calls kj16 (a0 ++ a1) true _ ?side1 A33.out).mono ?_); (case side1 => exact Laid.go hLd (by repeat (first | (with_reducible first | exact HB.out | apply below_alloc | apply pw_below_drewN | apply below_drew1) | exact HB.out))); rintro e w68 ⟨rfl, hb⟩; have n0_ := Aside0.mk (below_step (by repeat (first | (with_reducible first | exact HB.out | apply below_alloc | apply pw_below_drewN | apply below_drew1) | exact HB.out)) hb); clear HB; have HB := n0_; clear n0_; (try clear hb); (try clear hb2); (try clear hk); (try clear hi)) | (go_at_call 12; (with_reducible refine (tags_Check.calls kj16 (((((((⟨#[60]⟩ : ByteArray) ++ a2) ++ (⟨#[62]⟩ : ByteArray)) ++ a0) ++ (⟨#[60, 47]⟩ : ByteArray)) ++ a2) ++ (⟨#[62]⟩ : ByteArray)) true _ ?side1 A35.out).mono ?_); (case side1 => exact Laid.go hLd (by repeat (first | (with_reducible first | exact HB.out | apply below_alloc | apply pw_below_drewN | apply below_drew1) | exact HB.out))); rintro e w69 ⟨rfl, hb⟩; have n0_ := Aside0.mk (below_step (by repeat (first | (with_reducible first | exact HB.out | apply below_alloc | apply pw_below_drewN | apply below_drew1) | exact HB.out)) hb); clear HB; have HB := n0_; clear n0_; (try clear hb); (try clear hb2); (try clear hk); (try clear hi)) | (go_at_call 12; (with_reducible refine (tags_Check.calls kj16 ((((a1 ++ (((((((⟨#[60]⟩ : ByteArray) ++ a2) ++ (⟨#[62]⟩ : ByteArray)) ++ a0) ++ (⟨#[60, 47]⟩ : ByteArray)) ++ a2) ++ (⟨#[62]⟩ : ByteArray))) ++ (⟨#[60]⟩ : ByteArray)) ++ a2) ++ (⟨#[32, 47, 62]⟩ : ByteArray)) true _ ?side1 A41.out).mono ?_); (case side1 => exact Laid.go hLd (by repeat (first | (with_reducible first | exact HB.out | apply below_alloc | apply pw_below_drewN | apply below_drew1) | exact HB.out))); rintro e w70 ⟨rfl, hb⟩; have n0_ := Aside0.mk (below_step (by repeat (first | (with_reducible first | exact HB.out | apply below_alloc | apply pw_below_drewN | apply below_drew1) | exact HB.out)) hb); clear HB; have HB := n0_; clear n0_; (try clear hb); (try clear hb2); (try clear hk); (try clear hi)) | (go_at_call 12; (with_reducible refine (tags_Check.calls kj16 ((((a1 ++ (⟨#[60]⟩ : ByteArray)) ++ a2) ++ (⟨#[62]⟩ : ByteArray)) ++ a0) false _ ?side1 A47.out).mono ?_); (case side1 => exact Laid.go hLd (by repeat (first | (with_reducible first | exact HB.out | apply below_alloc | apply pw_below_drewN | apply below_drew1) | exact HB.out))); rintro e w71 ⟨rfl, hb⟩; have n0_ := Aside0.mk (below_step (by repeat (first | (with_reducible first | exact HB.out | apply below_alloc | apply pw_below_drewN | apply below_drew1) | exact HB.out)) hb); clear HB; have HB := n0_; clear n0_; (try clear hb); (try clear hb2); (try clear hk); (try clear hi)) | (go_at_call 12; (with_reducible refine (tags_Check.calls kj16 ((((⟨#[60, 47]⟩ : ByteArray) ++ a2) ++ (⟨#[62]⟩ : ByteArray)) ++ a0) false _ ?side1 A56.out).mono ?_); (case side1 => exact Laid.go hLd (by repeat (first | (with_reducible first | exact HB.out | apply below_alloc | apply pw_below_drewN | apply below_drew1) | exact HB.out))); rintro e w72 ⟨rfl, hb⟩; have n0_ := Aside0.mk (below_step (by repeat (first | (with_reducible first | exact HB.out | apply below_alloc | apply pw_below_drewN | apply below_drew1) | exact HB.out)) hb); clear HB; have HB := n0_; clear n0_; (try clear hb); (try clear hb2); (try clear hk); (try clear hi)) | (go_at_call 17; (with_reducible refine (tags_Text.calls kj16 ((((((((⟨#[60]⟩ : ByteArray) ++ a2) ++ (⟨#[62]⟩ : ByteArray)) ++ a0) ++ (⟨#[60, 47]⟩ : ByteArray)) ++ a2) ++ (⟨#[62]⟩ : ByteArray)) ++ a1) t282 _ ?side1 A64.out).mono ?_); (case side1 => exact Laid.go hLd (by repeat (first | (with_reducible first | exact HB.out | apply below_alloc | apply pw_below_drewN | apply below_drew1) | exact HB.out))); rintro e w73 ⟨rfl, hb⟩; have n0_ := Aside0.mk (below_step (by repeat (first | (with_reducible first | exact HB.out | apply below_alloc | apply pw_below_drewN | apply below_drew1) | exact HB.out)) hb); clear HB; have HB := n0_; clear n0_; (try clear hb); (try clear hb2); (try clear hk); (try clear hi)) | (go_at_call 17; (with_reducible refine (tags_Text.calls kj16 a0 t283 _ ?side1 A65.out).mono ?_); (case side1 => exact Laid.go hLd (by repeat (first | (with_reducible first | exact HB.out | apply below_alloc | apply pw_below_drewN | apply below_drew1) | exact HB.out))); rintro e w74 ⟨rfl, hb⟩; have n0_ := Aside0.mk (below_step (by repeat (first | (with_reducible first | exact HB.out | apply below_alloc | apply pw_below_drewN | apply below_drew1) | exact HB.out)) hb); clear HB; have HB := n0_; clear n0_; (try clear hb); (try clear hb2); (try clear hk); (try clear hi)) | (go_at_call 17; (with_reducible refine (tags_Text.calls kj16 a1 t284 _ ?side1 A66.out).mono ?_); (case side1 => exact Laid.go hLd (by repeat (first | (with_reducible first | exact HB.out | apply below_alloc | apply pw_below_drewN | apply below_drew1) | exact HB.out))); rintro e w75 ⟨rfl, hb⟩; have n0_ := Aside0.mk (below_step (by repeat (first | (with_reducible first | exact HB.out | apply below_alloc | apply pw_below_drewN | apply below_drew1) | exact HB.out)) hb); clear HB; have HB := n0_; clear n0_; (try clear hb); (try clear hb2); (try clear hk); (try clear hi)))
                                                                        go_ret
                                                                        exact ⟨by first | rfl | exact retNe _ | (simp [errW_none, errW_some] <;> rfl) | (simp [*, errW_none, errW_some] <;> rfl), by repeat (first | (with_reducible first | exact HB.out | apply below_alloc | apply pw_below_drewN | apply below_drew1) | exact HB.out)⟩
                                                                      · rw [if_neg c67] at H
                                                                        exact absurd H (by simp)
                                                                    · rw [if_neg c63] at H
                                                                      exact absurd H (by simp)
                                                                · rw [if_neg c55] at H
                                                                  exact absurd H (by simp)
                                                              · rw [if_neg c54] at H
                                                                exact absurd H (by simp)
                                                            · rw [if_neg c53] at H
                                                              exact absurd H (by simp)
                                                        · rw [if_neg c46] at H
                                                          exact absurd H (by simp)
                                                      · rw [if_neg c45] at H
                                                        exact absurd H (by simp)
                                                    · rw [if_neg c44] at H
                                                      exact absurd H (by simp)
                                                  · rw [if_neg c43] at H
                                                    exact absurd H (by simp)
                                                · replace c42 := Bool.eq_false_iff.mpr c42
                                                  subst c42
                                                  have H1 : (none) = some r := by rw [if_neg (show ¬ (false = true) by decide)] at H; exact H
                                                  cases H1
                                              · rw [if_neg c40] at H
                                                exact absurd H (by simp)
                                            · rw [if_neg c39] at H
                                              exact absurd H (by simp)
                                          · rw [if_neg c38] at H
                                            exact absurd H (by simp)
                                        · rw [if_neg c37] at H
                                          exact absurd H (by simp)
                                      · replace c36 := Bool.eq_false_iff.mpr c36
                                        subst c36
                                        have H1 : (none) = some r := by rw [if_neg (show ¬ (false = true) by decide)] at H; exact H
                                        cases H1
                                    · replace c34 := Bool.eq_false_iff.mpr c34
                                      subst c34
                                      have H1 : (none) = some r := by rw [if_neg (show ¬ (false = true) by decide)] at H; exact H
                                      cases H1
                                  · rw [if_neg c32] at H
                                    exact absurd H (by simp)
                                · replace c31 := Bool.eq_false_iff.mpr c31
                                  subst c31
                                  have H1 : (none) = some r := by rw [if_neg (show ¬ (false = true) by decide)] at H; exact H
                                  cases H1
                              · rw [if_neg c30] at H
                                exact absurd H (by simp)
                            · rw [if_neg c29] at H
                              exact absurd H (by simp)
                          · rw [if_neg c28] at H
                            exact absurd H (by simp)
                        · rw [if_neg c27] at H
                          exact absurd H (by simp)
                      · rw [if_neg c26] at H
                        exact absurd H (by simp)
                    · rw [if_neg c25] at H
                      exact absurd H (by simp)

end Go.Proofs.Ytjcfjgcnkbbgmaa.PA

namespace Go.Proofs.Ytjcfjgcnkbbgmaa.Pure
open Go.RowKit Go.Proofs.YtjcfjgcnkbbgmaaW.PrintWords Go.Proofs.YtjcfjgcnkbbgmaaW.PrintMore Go.Proofs.Ytjcfjgcnkbbgmaa.Pl Go.Proofs.Ytjcfjgcnkbbgmaa.PA

theorem tk_in (a n r : List UInt8) (hc : clean (tk a)) (hl : lets n) (hn : n ≠ []) : tk ([60] ++ n ++ [62] ++ a ++ [60, 47] ++ n ++ [62] ++ r) = .inl (B n, false, false, []) :: (tk a ++ .inl (B n, true, false, []) :: tk r) := by
  have e : [60] ++ n ++ [62] ++ a ++ [60, 47] ++ n ++ [62] ++ r = 60 :: (n ++ 62 :: (a ++ 60 :: 47 :: (n ++ 62 :: r))) := by simp
  rw [e, tk_beg n _ hl hn, tk_app _ a _ (Nat.le_refl _) hc, tk_end n r hl hn]
theorem chk_in (a n r : List UInt8) (ha : chkK [] (tk a) = some []) (hl : lets n) (hn : n ≠ []) : chkK [] (tk ([60] ++ n ++ [62] ++ a ++ [60, 47] ++ n ++ [62] ++ r)) = chkK [] (tk r) := by
  rw [tk_in a n r (chkK_clean _ _ _ ha) hl hn, chkK, if_neg (show ¬ (false = true) by decide), if_neg (show ¬ (false = true) by decide), List.nil_append]
  have h := chkK_on [B n] (tk a) [] [] ha
  rw [List.append_nil] at h
  rw [chkK_app _ _ _ _ h, chkK, if_pos rfl]
  show (if (B n).toList = (B n).toList then chkK [] (tk r) else none) = _
  rw [if_pos rfl]
theorem join_last (a b n : List UInt8) (ha : a.length ≤ 500) (hb : b.length ≤ 500) (hn50 : n.length ≤ 50) (hn : n ≠ []) (hl : lets n) (ca : chkK [] (tk a) = some []) (cb : chkK [] (tk b) = some []) : Ev (fun k => incipitlaw21_TagsJoin.j2 k (B a) (B b) (B n) true false) true := by
  have l1 : (⟨#[60]⟩ : ByteArray) = B [60] := rfl
  have l2 : (⟨#[62]⟩ : ByteArray) = B [62] := rfl
  have l3 : (⟨#[60, 47]⟩ : ByteArray) = B [60, 47] := rfl
  have l4 : (⟨#[32, 47, 62]⟩ : ByteArray) = B [32, 47, 62] := rfl
  have hca := chkK_clean _ _ _ ca
  have hcb := chkK_clean _ _ _ cb
  have k1 : chkR (chkK [] (tk (a ++ b))) = true := by rw [tk_app _ a b (Nat.le_refl _) hca, chkK_app _ _ _ _ ca, cb]; rfl
  have k2 : chkR (chkK [] (tk ([60] ++ n ++ [62] ++ a ++ [60, 47] ++ n ++ [62]))) = true := by
    have h := chk_in a n [] ca hl hn
    rw [List.append_nil] at h
    rw [h]
    rfl
  have k3 : chkR (chkK [] (tk (b ++ ([60] ++ n ++ [62] ++ a ++ [60, 47] ++ n ++ [62]) ++ [60] ++ n ++ [32, 47, 62]))) = true := by
    have e : b ++ ([60] ++ n ++ [62] ++ a ++ [60, 47] ++ n ++ [62]) ++ [60] ++ n ++ [32, 47, 62] = b ++ ([60] ++ n ++ [62] ++ a ++ [60, 47] ++ n ++ [62] ++ (60 :: (n ++ 32 :: 47 :: 62 :: []))) := by simp
    rw [e, tk_app _ b _ (Nat.le_refl _) hcb, chkK_app _ _ _ _ cb, chk_in a n _ ca hl hn, tk_void n [] hl hn]
    rfl
  have k4 : chkR (chkK [] (tk (b ++ [60] ++ n ++ [62] ++ a))) = false := by
    have e : b ++ [60] ++ n ++ [62] ++ a = b ++ 60 :: (n ++ 62 :: a) := by simp
    have h := chkK_on [B n] (tk a) [] [] ca
    rw [List.append_nil] at h
    rw [e, tk_app _ b _ (Nat.le_refl _) hcb, chkK_app _ _ _ _ cb, tk_beg n a hl hn, chkK, if_neg (show ¬ (false = true) by decide), if_neg (show ¬ (false = true) by decide), List.nil_append, h]
    rfl
  have k5 : chkR (chkK [] (tk ([60, 47] ++ n ++ [62] ++ a))) = false := by
    have e : [60, 47] ++ n ++ [62] ++ a = 60 :: 47 :: (n ++ 62 :: a) := by simp
    rw [e, tk_end n a hl hn, chkK, if_pos rfl]
    rfl
  have k6 : txtK (tk ([60] ++ n ++ [62] ++ a ++ [60, 47] ++ n ++ [62] ++ b)) = txtK (tk a) ++ txtK (tk b) := by
    rw [tk_in a n b hca hl hn, txtK, txtK_app, txtK]
  have e1 := check_ev (a ++ b) (by simp; omega)
  have e2 := check_ev ([60] ++ n ++ [62] ++ a ++ [60, 47] ++ n ++ [62]) (by simp; omega)
  have e3 := check_ev (b ++ ([60] ++ n ++ [62] ++ a ++ [60, 47] ++ n ++ [62]) ++ [60] ++ n ++ [32, 47, 62]) (by simp; omega)
  have e4 := check_ev (b ++ [60] ++ n ++ [62] ++ a) (by simp; omega)
  have e5 := check_ev ([60, 47] ++ n ++ [62] ++ a) (by simp; omega)
  have e6 := text_ev ([60] ++ n ++ [62] ++ a ++ [60, 47] ++ n ++ [62] ++ b) (by simp; omega)
  have e7 := text_ev a (by omega)
  have e8 := text_ev b (by omega)
  rw [k1] at e1
  rw [k2] at e2
  rw [k3] at e3
  rw [k4] at e4
  rw [k5] at e5
  rw [k6] at e6
  have t1 : (txtK (tk a)).length ≤ 500 := by
    have h : ∀ ts : List Tok, (txtK ts).length ≤ ts.length := by
      intro ts
      induction ts with
      | nil => exact Nat.le_refl _
      | cons q ts ih => cases q <;> simp [txtK] <;> omega
    have := h (tk a); have := tk_len a; omega
  have t2 : (txtK (tk b)).length ≤ 500 := by
    have h : ∀ ts : List Tok, (txtK ts).length ≤ ts.length := by
      intro ts
      induction ts with
      | nil => exact Nat.le_refl _
      | cons q ts ih => cases q <;> simp [txtK] <;> omega
    have := h (tk b); have := tk_len b; omega
  refine Ev.succ ?_
  simp only [incipitlaw21_TagsJoin.j2, l1, l2, l3, l4, B_append, B_size, List.length_append, List.length_cons, List.length_nil]
  refine Ev.other (by decide) ?_
  refine Ev.guard (by omega) (Ev.guard (by omega) (Ev.guard (by omega) (Ev.guard (by omega) (Ev.guard (by omega) (Ev.guard (by omega) (Ev.guard trivial (Ev.guard (by omega) ?_)))))))
  refine Ev.bind e1 (Ev.guard rfl ?_)
  refine Ev.bind e2 (Ev.guard rfl ?_)
  refine Ev.guard (by omega) (Ev.guard (by omega) (Ev.guard (by omega) (Ev.guard (by omega) ?_)))
  refine Ev.bind e3 (Ev.guard rfl ?_)
  refine Ev.guard (by omega) (Ev.guard (by omega) (Ev.guard (by omega) (Ev.guard (by omega) ?_)))
  refine Ev.bind e4 (Ev.other (by decide) ?_)
  refine Ev.guard (by omega) (Ev.guard (by omega) (Ev.guard (by omega) ?_))
  refine Ev.bind e5 (Ev.other (by decide) ?_)
  refine Ev.guard (by omega) ?_
  refine Ev.bind e6 (Ev.bind e7 (Ev.bind e8 ?_))
  refine Ev.guard (by rw [B_size, B_size]; omega) (Ev.const ?_)
  rw [B_append, beq_self_eq_true]
theorem join_at (a b n : List UInt8) (ha : a.length ≤ 500) (hb : b.length ≤ 500) (hn50 : n.length ≤ 50) (hn : n ≠ []) : ∀ (m i : Nat), m = n.length - i → i ≤ n.length → lets (n.take i) → Ev (fun k => incipitlaw21_TagsJoin.l0 k (B a) (B b) (B n) true (i : Int)) true
  | 0, i, hm, hi, h => by
    obtain rfl : i = n.length := by omega
    rw [List.take_length] at h
    have hsz := B_size n
    have z : Ev (fun k => incipitlaw21_TagsJoin.j2 k (B a) (B b) (B n) true true) true := Ev.step (f := fun _ => some true) (fun k => by rw [incipitlaw21_TagsJoin.j2, if_pos rfl]) (Ev.now _)
    refine Ev.succ ?_
    simp only [incipitlaw21_TagsJoin.l0]
    refine Ev.other (by omega) ?_
    refine Ev.bind (check_ev a (by omega)) ?_
    cases ha1 : chkR (chkK [] (tk a)) with
    | false => exact Ev.other (by decide) z
    | true =>
      refine Ev.guard rfl ?_
      refine Ev.bind (check_ev b (by omega)) ?_
      cases hb1 : chkR (chkK [] (tk b)) with
      | false => exact z
      | true => exact join_last a b n ha hb hn50 hn h (chkR_true ha1) (chkR_true hb1)
  | m + 1, i, hm, hi, h => by
    have hlt : i < n.length := by omega
    have hsz := B_size n
    have hbt := B_bt n i hlt
    obtain ⟨x, hx⟩ : ∃ x, n[i] = x := ⟨_, rfl⟩
    rw [hx] at hbt
    have hw : wrap64 ((i : Int) + 1) = ((i + 1 : Nat) : Int) := by rw [w64 (by omega) (by omega)]; omega
    have g1 : (i : Int) < ((B n).size : Int) := by rw [hsz]; exact Int.ofNat_lt.2 hlt
    have ih := join_at a b n ha hb hn50 hn m (i + 1) (by omega) (by omega)
    refine Ev.succ ?_
    simp only [incipitlaw21_TagsJoin.l0, hbt, hw]
    refine Ev.guard g1 (Ev.guard (Int.natCast_nonneg i) ?_)
    by_cases h1 : (x.toNat : Int) < 97
    · exact Ev.guard h1 (Ev.now _)
    · refine Ev.other h1 ?_
      by_cases h2 : (x.toNat : Int) > 122
      · exact Ev.guard h2 (Ev.now _)
      · refine Ev.other h2 (ih ?_)
        intro y hy
        rw [← List.take_append_getElem hlt, hx, List.mem_append, List.mem_singleton] at hy
        rcases hy with hy | rfl
        · exact h y hy
        · unfold sm
          rw [decide_eq_true (by omega), decide_eq_true (by omega)]
          rfl
theorem TagsJoin : ∀ (a0 : ByteArray) (a1 : ByteArray) (a2 : ByteArray), a0.size ≤ 140737488351232 → a1.size ≤ 140737488351232 → a2.size ≤ 140737488351232 → ∃ k, PA.incipitlaw21_TagsJoin.f k a0 a1 a2 = some true := by
  intro a0 a1 a2 _ _ _
  refine Ev.rounds ?_
  obtain ⟨a, rfl⟩ : ∃ l, a0 = B l := ⟨a0.data.toList, (B_eta a0).symm⟩
  obtain ⟨b, rfl⟩ : ∃ l, a1 = B l := ⟨a1.data.toList, (B_eta a1).symm⟩
  obtain ⟨n, rfl⟩ : ∃ l, a2 = B l := ⟨a2.data.toList, (B_eta a2).symm⟩
  have z : Ev (fun k => incipitlaw21_TagsJoin.j0 k (B a) (B b) (B n) true true) true := Ev.step (f := fun _ => some true) (fun k => by rw [incipitlaw21_TagsJoin.j0, if_pos rfl]) (Ev.now _)
  unfold incipitlaw21_TagsJoin.f
  refine Ev.bind awake_ev ?_
  simp only [B_size, B_toList]
  by_cases h1 : (a.length : Int) > 500
  · exact Ev.guard h1 z
  · refine Ev.other h1 ?_
    by_cases h2 : (b.length : Int) > 500
    · exact Ev.guard h2 z
    · refine Ev.other h2 ?_
      by_cases h3 : n = []
      · exact Ev.guard h3 z
      · refine Ev.other h3 ?_
        by_cases h4 : (n.length : Int) > 50
        · rw [decide_eq_true h4]
          exact z
        · rw [decide_eq_false h4]
          refine Ev.succ ?_
          simp only [incipitlaw21_TagsJoin.j0]
          refine Ev.other (by decide) ?_
          exact join_at a b n (by omega) (by omega) (by omega) h3 _ 0 rfl (Nat.zero_le _) (fun y hy => by rw [List.take_zero] at hy; cases hy)
end Go.Proofs.Ytjcfjgcnkbbgmaa.Pure

namespace Go.Proofs.Ytjcfjgcnkbbgmaa.tagsJoin
open Go.ChangeShapes Go.WideShapes Go.ChangeAt Go.RowKit Go.Proofs.YtjcfjgcnkbbgmaaW.PrintWords Go.Proofs.Ytjcfjgcnkbbgmaa.RowU8
open Go.ChangeMaps (open_string shut_string)
set_option linter.unusedVariables false
set_option maxRecDepth 100000 in
theorem contract (H : Type) (enc : TypeId × Value → H) (W : World) (base : Nat) (args : Array Value) (ds gs : List (DataW H)) (before : List MemPlace)
    (hval0 : ∀ (j : Nat) t v, Try.f4.params[j]? = some t → args[j]? = some v → Value.okWide Try.prog W .any base t v)
    (hW : DataW.Whole enc Try.prog Try.f4.params.toList Rows.tagsJoinSpec.vars false W args.toList ds gs before) (hsz0 : (DataW.weightsEach Try.prog (Try.f4.params.toList ++ (OpenSpec.ofChange Rows.tagsJoinSpec).bare.plain.varTypes Try.prog) (ds ++ gs)).all (· ≤ reachBytes) = true) (hSh : W.ShapedOpen Try.prog) :
    Calls Try.prog 4 args W fun e W' => ∃ v, e = .returned v ∧ Rows.tagsJoinSpec.post enc Try.prog Try.f4 false true false false W args v W' := by
  have hsz : (DataW.weightsEach Try.prog (Try.f4.params.toList ++ Rows.tagsJoinSpec.plain.varTypes Try.prog) (ds ++ gs)).all (· ≤ reachBytes) = true := hsz0
  have hval : ∀ (j : Nat) t v, Try.f4.params[j]? = some t → args[j]? = some v → Value.okWide Try.prog W .any base t v := hval0
  have hW' := hW
  obtain ⟨p, q, hA0, hV, rfl, hfz, hnd⟩ := hW
  have hA : DataW.TrodAll enc Try.prog W 0 (fun _ => true) true Try.f4.params.toList args.toList ds p := hA0
  rw [Try.params4] at hA hval hsz
  obtain ⟨v0, vs0, d0, ds0, p0, q0, hargs, rfl, rfl, h0, r0⟩ := trodAll_cons hA
  obtain ⟨v1, vs1, d1, ds1, p1, q1, rfl, rfl, rfl, h1, r1⟩ := trodAll_cons r0
  obtain ⟨v2, vs2, d2, ds2, p2, q2, rfl, rfl, rfl, h2, r2⟩ := trodAll_cons r1
  obtain ⟨rfl, rfl, rfl⟩ := trodAll_nil r2
  obtain rfl : args = #[v0, v1, v2] := by cases args; simp_all
  obtain ⟨rfl, rfl⟩ := trodVars_none hV
  obtain ⟨a0, rfl, rfl, rfl, y0⟩ := open_string Try.underlying9 (hval 0 9 v0 rfl rfl) h0
  have w0 : a0.size ≤ 140737488351232 := by
    have z := sized_string hsz (j := 0) (t := 9) rfl rfl
    rw [Array.length_toList] at z
    exact z
  obtain ⟨a1, rfl, rfl, rfl, y1⟩ := open_string Try.underlying9 (hval 1 9 v1 rfl rfl) h1
  have w1 : a1.size ≤ 140737488351232 := by
    have z := sized_string hsz (j := 1) (t := 9) rfl rfl
    rw [Array.length_toList] at z
    exact z
  obtain ⟨a2, rfl, rfl, rfl, y2⟩ := open_string Try.underlying9 (hval 2 9 v2 rfl rfl) h2
  have w2 : a2.size ≤ 140737488351232 := by
    have z := sized_string hsz (j := 2) (t := 9) rfl rfl
    rw [Array.length_toList] at z
    exact z
  clear hA0 hval0 hsz0 hsz
  obtain ⟨k, hp⟩ := Pure.TagsJoin a0 a1 a2 w0 w1 w2
  refine (PA.incipitlaw21_TagsJoin.calls k a0 a1 a2 true W (laidOf hSh) hp).mono ?_
  rintro e W' ⟨rfl, bel⟩
  exact ⟨_, rfl, _, _, _, [], _, [], hW', trodAll_mk1 (shut_bool Try.underlying4 _), (trodAll_cons_mk (shut_string Try.underlying9 y0) (trodAll_cons_mk (shut_string Try.underlying9 y1) (trodAll_cons_mk (shut_string Try.underlying9 y2) trodAll_mk0))), rfl, bel.frame _, fun h => by cases h⟩
theorem laid_met (os : Os) : laidMet Try.prog Rows.tagsJoinRow.laid ((laidWorld os).forCall (fun _ _ => 0) ⟨#[], #[.string ByteArray.empty, .string ByteArray.empty, .string ByteArray.empty], []⟩).memory :=
  laidMet_of_run' 8 (by kernel_rfl) (by kernel_rfl)
theorem reads (os : Os) {H : Type} (enc : TypeId × Value → H) : ∃ places, DataW.whole enc Try.prog ((laidWorld os).forCall (fun _ _ => 0) ⟨#[], #[.string ByteArray.empty, .string ByteArray.empty, .string ByteArray.empty], []⟩).memory Try.f4.params.toList Rows.tagsJoinSpec.vars false (#[.string ByteArray.empty, .string ByteArray.empty, .string ByteArray.empty] : Array Value).toList 8 = some ([.lit (.string []), .lit (.string []), .lit (.string [])], [], places) :=
  ⟨[], by kernel_rfl⟩
set_option maxRecDepth 100000 in
theorem lifted (os : Os) (started : os.Started) (H : Type) (enc : TypeId × Value → H) (F : Stop.Interp) :
    ReturnsInHanded {} Try.checked os 4 .any ((OpenSpec.ofChange Rows.tagsJoinSpec).preRow enc Try.prog Try.f4 Rows.tagsJoinRow.domain false Rows.tagsJoinRow.laid) (((OpenSpec.ofChange Rows.tagsJoinSpec).at F).post enc Try.prog Try.f4 false true false false) := by
  obtain ⟨places, hx⟩ := reads os enc
  refine returnsInHanded_of_row (C := Try.checked) (s := OpenSpec.ofChange Rows.tagsJoinSpec) own started (by kernel_rfl) Try.func4
    (witness_row_at (enc := enc) (C := Try.checked) false (laidWorld os) #[.string ByteArray.empty, .string ByteArray.empty, .string ByteArray.empty] rfl (by kernel_rfl) (by kernel_rfl) (by kernel_rfl)
      (OpenSpec.preRow_of_cond 8 hx (by kernel_rfl) (fun k hk => by cases hk) (by kernel_rfl) (laid_met os))) ?_
  intro W base args ds gs before hval hW _ _ hsz hL hSh _
  exact contract H enc W base args ds gs before hval hW hsz hSh
theorem said : Rows.TagsJoinSaid :=
  OpenClaim.holds_of_cond 4 Try.f4 rfl rfl rfl rfl rfl rfl rfl ⟨rfl, rfl, rfl, rfl, rfl⟩ rfl rfl rfl rfl rfl (by kernel_rfl) Try.func4 (by kernel_rfl)
    (of_decide_eq_true (by kernel_rfl)) (by unfold Func.isWrapper; first | (rw [if_pos (by decide +kernel)]; kernel_rfl) | (rw [if_neg (by decide +kernel)]; exact ⟨rfl, rfl⟩))
    (fun os started H enc _ F => by rw [OpenClaim.pre_eq_preRow]; exact lifted os started H enc F)
end Go.Proofs.Ytjcfjgcnkbbgmaa.tagsJoin
namespace Go.Proofs.Ytjcfjgcnkbbgmaa
/-- The statement, under a short name, for the claim. -/
theorem tagsJoin_holds : Rows.TagsJoinSaid := tagsJoin.said
end Go.Proofs.Ytjcfjgcnkbbgmaa
