/-
  Texts of the proof of AutoWell, part 2 of 5: contracts and plain laws. Conditions: see each statement.
-/
import Derived.Test.YtddmddlaamcpiaaDoorSAutoWell1
import Derived.Lib.IndexLaws
import Derived.Lib.SplitLaws
import Derived.KernelRfl
import Derived.Lib.IndexAny
set_option linter.unusedVariables false
namespace Go.Proofs.YtddmddlaamcpiaaDoor.PA
open Go.RowKit Go.Proofs.YtddmddlaamcpiaaDoorW.PrintWords Go.Proofs.YtddmddlaamcpiaaDoorW.PrintLast Go.Proofs.YtddmddlaamcpiaaDoorW.PrintMore
attribute [local go_sem] max2_int min2_int max_two min_two max_three min_three max_four min_four   -- for this text's walks alone
set_option linter.unusedVariables false
set_option linter.unusedSimpArgs false

/-! ### auto_tail: function 21 -/
mutual
def auto_tail.j0 : Nat → ByteArray → Int → Int → Option (Int)
  | 0, _, _, _ => none
  | k + 1, x0, x1, x5 => auto_tail.l0 k x0 x1 x5
def auto_tail.l0 : Nat → ByteArray → Int → Int → Option (Int)
  | 0, _, _, _ => none
  | k + 1, x0, x1, x5 => if x5 > x1 then (if 0 ≤ x5 then (if x5 ≤ (x0.size : Int) then ((auto_excess.f k (x0.extract 0 (x5 : Int).toNat)).bind fun t121 => (if t121 = 0 then (some x5) else (if (wrap64 (x5 - t121)) < x1 then (some x5) else (auto_tail.l0 k x0 x1 (wrap64 (x5 - t121)))))) else (none)) else (none)) else (some x5)
end
def auto_tail.f (k : Nat) (a0 : ByteArray) (a1 : Int) : Option (Int) := if 0 ≤ a1 then (if a1 ≤ (a0.size : Int) then ((strings_IndexAny.f (a0.extract (a1 : Int).toNat a0.size) (⟨#[32, 9, 10, 60]⟩ : ByteArray)).bind fun t120 => (if t120 ≥ 0 then (auto_tail.j0 k a0 a1 (wrap64 (a1 + t120))) else (auto_tail.j0 k a0 a1 (a0.size : Int)))) else (none)) else (none)
theorem auto_tail.mono_l : ∀ k, (∀ y0 y1 y2, LeO (auto_tail.j0 k y0 y1 y2) (auto_tail.j0 (k + 1) y0 y1 y2)) ∧ (∀ y0 y1 y2, LeO (auto_tail.l0 k y0 y1 y2) (auto_tail.l0 (k + 1) y0 y1 y2))
  | 0 => ⟨fun _ _ _ r h => by simp [auto_tail.j0] at h, fun _ _ _ r h => by simp [auto_tail.l0] at h⟩
  | k + 1 => by
    obtain ⟨ih0, ih1⟩ := auto_tail.mono_l k
    refine ⟨?_, ?_⟩
    · intro y0 y1 y2
      unfold auto_tail.j0
      repeat' first
      | (with_reducible exact ih0 _ _ _)
      | (with_reducible exact ih1 _ _ _)
      | (with_reducible exact auto_excess.mono _ _)
      | (with_reducible exact LeO.refl _)
      | (with_reducible exact LeO.none _)
      | (with_reducible refine LeO.ite ?_ ?_)
      | (with_reducible refine LeO.bind ?_ (fun _ => ?_))
      | exact ih0 _ _ _
      | exact ih1 _ _ _
      | exact auto_excess.mono _ _
      | exact LeO.none _
      | refine LeO.ite ?_ ?_
      | refine LeO.bind ?_ (fun _ => ?_)
    · intro y0 y1 y2
      unfold auto_tail.l0
      repeat' first
      | (with_reducible exact ih0 _ _ _)
      | (with_reducible exact ih1 _ _ _)
      | (with_reducible exact auto_excess.mono _ _)
      | (with_reducible exact LeO.refl _)
      | (with_reducible exact LeO.none _)
      | (with_reducible refine LeO.ite ?_ ?_)
      | (with_reducible refine LeO.bind ?_ (fun _ => ?_))
      | exact ih0 _ _ _
      | exact ih1 _ _ _
      | exact auto_excess.mono _ _
      | exact LeO.none _
      | refine LeO.ite ?_ ?_
      | refine LeO.bind ?_ (fun _ => ?_)
theorem auto_tail.mono : ∀ a0 a1 k, LeO (auto_tail.f k a0 a1) (auto_tail.f (k + 1) a0 a1) := by
  intro a0 a1 k
  obtain ⟨ih0, ih1⟩ := auto_tail.mono_l k
  unfold auto_tail.f
  repeat' first
      | (with_reducible exact ih0 _ _ _)
      | (with_reducible exact ih1 _ _ _)
      | (with_reducible exact auto_excess.mono _ _)
      | (with_reducible exact LeO.refl _)
      | (with_reducible exact LeO.none _)
      | (with_reducible refine LeO.ite ?_ ?_)
      | (with_reducible refine LeO.bind ?_ (fun _ => ?_))
      | exact ih0 _ _ _
      | exact ih1 _ _ _
      | exact auto_excess.mono _ _
      | exact LeO.none _
      | refine LeO.ite ?_ ?_
      | refine LeO.bind ?_ (fun _ => ?_)
set_option maxHeartbeats 8000000 in
set_option maxRecDepth 100000 in
theorem auto_tail.calls (k : Nat) (a0 : ByteArray) (a1 : Int) (r : Int) (w : World) (h : auto_tail.f k a0 a1 = some r) :
    Calls Tryd.prog 21 #[.string a0, .int .i64 a1] w fun e w' => e = .returned (.int .i64 r) ∧ Below w.heap.size w w' := by
  have HB := Aside0.mk (Below.refl w.heap.size w)
  have H : (if 0 ≤ a1 then (if a1 ≤ (a0.size : Int) then ((strings_IndexAny.f (a0.extract (a1 : Int).toNat a0.size) (⟨#[32, 9, 10, 60]⟩ : ByteArray)).bind fun t120 => (if t120 ≥ 0 then (auto_tail.j0 k a0 a1 (wrap64 (a1 + t120))) else (auto_tail.j0 k a0 a1 (a0.size : Int)))) else (none)) else (none)) = some r := h
  clear h
  by_cases c3 : 0 ≤ a1
  · rw [if_pos c3] at H
    have c3b0 := eq_true c3
    have c3b1 : decide (0 ≤ a1) = true := decide_eq_true c3
    clear c3
    by_cases c4 : a1 ≤ (a0.size : Int)
    · rw [if_pos c4] at H
      have c4b0 := eq_true c4
      have c4b1 : decide (a1 ≤ (a0.size : Int)) = true := decide_eq_true c4
      clear c4
      replace H := Option.bind_eq_some_iff.mp H
      obtain ⟨t120, A50, H⟩ := H
      replace H : (if t120 ≥ 0 then (auto_tail.j0 k a0 a1 (wrap64 (a1 + t120))) else (auto_tail.j0 k a0 a1 (a0.size : Int))) = some r := H
      have A5 := Aside0.mk A50
      clear A50
      have HC6 := Aside0.mk H
      clear H
      go_enter Tryd.func21, Tryd.ntmps21
      go_upto_if 15 with (first | ((with_reducible refine gate_callee (f := 34) rfl ?_); refine goesL_ (some 13) rfl rfl Tryd.func34 (by kernel_rfl) rfl #[.string (a0.extract (a1 : Int).toNat a0.size), .string (⟨#[32, 9, 10, 60]⟩ : ByteArray)] rfl (by (try simp only [List.map_toArray, List.map_cons, List.map_nil]); first | done | rfl | (simp only [List.length_drop, List.length_take]; rfl)) ?_; (with_reducible refine (strings_IndexAny.calls (a0.extract (a1 : Int).toNat a0.size) (⟨#[32, 9, 10, 60]⟩ : ByteArray) t120 _ A5.out).mono ?_); rintro e w7 ⟨rfl, hb⟩; refine ⟨_, rfl, ?_⟩; have n0_ := Aside0.mk (below_step (by repeat (first | (with_reducible first | exact HB.out | apply below_alloc | apply pw_below_drewN | apply below_drew1) | exact HB.out)) hb); clear HB; have HB := n0_; clear n0_; (try clear hb); (try clear hb2); (try clear hk); (try clear hi)))
      (try simp only [Act.put, List.setIfInBounds_toArray, List.set_cons_zero, List.set_cons_succ])
      go_cut [5] (fun v5 wc => ∃ (kq : Nat) (x5_5 : Int), v5 = .int .i64 x5_5 ∧ Aside0 (auto_tail.j0 kq a0 a1 x5_5 = some r) ∧ Aside0 (kq ≤ k) ∧ Aside0 (Below w.heap.size w wc))
      case first =>
        have H := HC6.out
        clear HC6
        by_cases c8 : t120 ≥ 0
        · rw [if_pos c8] at H
          have c8b0 : decide (0 ≤ t120) = true := decide_eq_true c8
          clear c8
          (first | rw [c8b0] | (simp only [i64_w, i32_w]; rw [c8b0]) | skip)
          have H' := Aside0.mk H
          clear H
          go_wp2
          go_meet
          case rel => exact ⟨_, (wrap64 (a1 + t120)), (by first | rfl | (simp; done) | (simp [*]; done)), H', ⟨by first | omega | exact Nat.le_refl _⟩, ⟨by repeat (first | (with_reducible first | exact HB.out | apply below_alloc | apply pw_below_drewN | apply below_drew1) | exact HB.out)⟩⟩
        · rw [if_neg c8] at H
          have c8b0 : decide (0 ≤ t120) = false := decide_eq_false c8
          clear c8
          (first | rw [c8b0] | (simp only [i64_w, i32_w]; rw [c8b0]) | skip)
          have H' := Aside0.mk H
          clear H
          go_wp2
          go_meet
          case rel => exact ⟨_, ((a0.size : Int)), (by first | rfl | (simp; done) | (simp [*]; done)), H', ⟨by first | omega | exact Nat.le_refl _⟩, ⟨by repeat (first | (with_reducible first | exact HB.out | apply below_alloc | apply pw_below_drewN | apply below_drew1) | exact HB.out)⟩⟩
      case rest =>
        clear HC6
        try clear c2
        try clear p2
        try clear c3
        try clear c3b0
        try clear c3b1
        try clear c4
        try clear c4b0
        try clear c4b1
        try clear p6
        try clear c8
        try clear c8b0
        obtain ⟨kq, x5_5, rfl, HA, HJ5, HB⟩ := hcut
        cases kq with
        | zero => exact absurd HA.out (by simp [auto_tail.j0])
        | succ kj5 =>
          have H := HA.out
          clear HA
          simp only [auto_tail.j0] at H
          have H' := Aside0.mk H
          clear H
          go_wp2
          go_loopg [5] kj5 (fun kq v5 w' => ∃ (x5_2 : Int), v5 = .int .i64 x5_2 ∧ Aside0 (auto_tail.l0 kq a0 a1 x5_2 = some r) ∧ Aside0 (kq ≤ kj5) ∧ Aside0 (Below w.heap.size w w'))
          case atStart => exact ⟨(x5_5), (by first | rfl | (simp; done) | (simp [*]; done)), H', ⟨Nat.le_refl _⟩, ⟨by repeat (first | (with_reducible first | exact HB.out | apply below_alloc | apply pw_below_drewN | apply below_drew1) | exact HB.out)⟩⟩
          case round =>
            clear H'
            try clear c2
            try clear p2
            try clear c3
            try clear c3b0
            try clear c3b1
            try clear c4
            try clear c4b0
            try clear c4b1
            try clear p6
            try clear c8
            try clear c8b0
            try clear p2
            try clear p6
            obtain ⟨x5_2, rfl, HA, HK2, HB⟩ := hrel
            cases gk with
            | zero => exact absurd HA.out (by simp [auto_tail.l0])
            | succ k2 =>
              have H := HA.out
              clear HA
              simp only [auto_tail.l0] at H
              by_cases c9 : x5_2 > a1
              · rw [if_pos c9] at H
                have c9b0 : decide (a1 < x5_2) = true := decide_eq_true c9
                clear c9
                by_cases c10 : 0 ≤ x5_2
                · rw [if_pos c10] at H
                  have c10b0 := eq_true c10
                  have c10b1 : decide (0 ≤ x5_2) = true := decide_eq_true c10
                  clear c10
                  by_cases c11 : x5_2 ≤ (a0.size : Int)
                  · rw [if_pos c11] at H
                    have c11b0 := eq_true c11
                    have c11b1 : decide (x5_2 ≤ (a0.size : Int)) = true := decide_eq_true c11
                    clear c11
                    replace H := Option.bind_eq_some_iff.mp H
                    obtain ⟨t121, A120, H⟩ := H
                    replace H : (if t121 = 0 then (some x5_2) else (if (wrap64 (x5_2 - t121)) < a1 then (some x5_2) else (auto_tail.l0 k2 a0 a1 (wrap64 (x5_2 - t121))))) = some r := H
                    have A12 := Aside0.mk A120
                    clear A120
                    by_cases c13 : t121 = 0
                    · rw [if_pos c13] at H
                      have c13b0 : (t121 == 0) = true := beq_iff_eq.mpr c13
                      have c13b1 : (t121 != 0) = false := bne_eq_false_iff_eq.mpr c13
                      clear c13
                      obtain rfl := Option.some.inj H
                      go_wp2_with (first | ((with_reducible refine gate_callee (f := 35) rfl ?_); refine goesL_ (some 25) rfl rfl Tryd.func35 (by kernel_rfl) rfl #[.string (a0.extract 0 (x5_2 : Int).toNat)] rfl (by (try simp only [List.map_toArray, List.map_cons, List.map_nil]); first | done | rfl | (simp only [List.length_drop, List.length_take]; rfl)) ?_; (with_reducible refine (auto_excess.calls k2 (a0.extract 0 (x5_2 : Int).toNat) t121 _ A12.out).mono ?_); rintro e w' ⟨rfl, ⟨nd, rfl⟩⟩; refine ⟨_, rfl, ?_⟩))
                      go_ret
                      exact ⟨by first | rfl | (simp [errW_none, errW_some] <;> rfl) | (simp [*, errW_none, errW_some] <;> rfl), by repeat (first | (with_reducible first | exact HB.out | apply below_alloc | apply pw_below_drewN | apply below_drew1) | exact HB.out)⟩
                    · rw [if_neg c13] at H
                      have c13b0 : (t121 == 0) = false := beq_eq_false_iff_ne.mpr c13
                      have c13b1 : (t121 != 0) = true := bne_iff_ne.mpr c13
                      by_cases c14 : (wrap64 (x5_2 - t121)) < a1
                      · rw [if_pos c14] at H
                        have c14b0 : decide ((wrap64 (x5_2 - t121)) < a1) = true := decide_eq_true c14
                        clear c14
                        obtain rfl := Option.some.inj H
                        go_wp2_with (first | ((with_reducible refine gate_callee (f := 35) rfl ?_); refine goesL_ (some 25) rfl rfl Tryd.func35 (by kernel_rfl) rfl #[.string (a0.extract 0 (x5_2 : Int).toNat)] rfl (by (try simp only [List.map_toArray, List.map_cons, List.map_nil]); first | done | rfl | (simp only [List.length_drop, List.length_take]; rfl)) ?_; (with_reducible refine (auto_excess.calls k2 (a0.extract 0 (x5_2 : Int).toNat) t121 _ A12.out).mono ?_); rintro e w' ⟨rfl, ⟨nd, rfl⟩⟩; refine ⟨_, rfl, ?_⟩))
                        go_ret
                        exact ⟨by first | rfl | (simp [errW_none, errW_some] <;> rfl) | (simp [*, errW_none, errW_some] <;> rfl), by repeat (first | (with_reducible first | exact HB.out | apply below_alloc | apply pw_below_drewN | apply below_drew1) | exact HB.out)⟩
                      · rw [if_neg c14] at H
                        have c14b0 : decide ((wrap64 (x5_2 - t121)) < a1) = false := decide_eq_false c14
                        clear c14
                        have H' := Aside0.mk H
                        clear H
                        go_wp2_with (first | ((with_reducible refine gate_callee (f := 35) rfl ?_); refine goesL_ (some 25) rfl rfl Tryd.func35 (by kernel_rfl) rfl #[.string (a0.extract 0 (x5_2 : Int).toNat)] rfl (by (try simp only [List.map_toArray, List.map_cons, List.map_nil]); first | done | rfl | (simp only [List.length_drop, List.length_take]; rfl)) ?_; (with_reducible refine (auto_excess.calls k2 (a0.extract 0 (x5_2 : Int).toNat) t121 _ A12.out).mono ?_); rintro e w' ⟨rfl, ⟨nd, rfl⟩⟩; refine ⟨_, rfl, ?_⟩))
                        go_roundg k2
                        case measure => have := HJ5.out; have := HK2.out; omega
                        case rel => exact ⟨(wrap64 (x5_2 - t121)), (by first | rfl | (simp; done) | (simp [*]; done)), H', ⟨by have := HJ5.out; have := HK2.out; omega⟩, ⟨by repeat (first | (with_reducible first | exact HB.out | apply below_alloc | apply pw_below_drewN | apply below_drew1) | exact HB.out)⟩⟩
                  · rw [if_neg c11] at H
                    exact absurd H (by simp)
                · rw [if_neg c10] at H
                  exact absurd H (by simp)
              · rw [if_neg c9] at H
                have c9b0 : decide (a1 < x5_2) = false := decide_eq_false c9
                clear c9
                obtain rfl := Option.some.inj H
                go_wp2
                go_ret
                exact ⟨by first | rfl | (simp [errW_none, errW_some] <;> rfl) | (simp [*, errW_none, errW_some] <;> rfl), by repeat (first | (with_reducible first | exact HB.out | apply below_alloc | apply pw_below_drewN | apply below_drew1) | exact HB.out)⟩
    · rw [if_neg c4] at H
      exact absurd H (by simp)
  · rw [if_neg c3] at H
    exact absurd H (by simp)


/-! ### auto_mailbox: function 23 -/
def auto_mailbox.j0 : Nat → ByteArray → Int → Bool → Option (Int)
  | 0, _, _, _ => none
  | k + 1, x0, x3, x15 => if x15 = true then (some 0) else (if 0 ≤ (wrap64 (x3 + 1)) then (if (wrap64 (x3 + 1)) ≤ (x0.size : Int) then ((auto_host.f k (x0.extract ((wrap64 (x3 + 1)) : Int).toNat x0.size)).bind fun t124 => (if t124 = 0 then (some 0) else (if 0 ≤ (wrap64 (x3 + t124)) then (if (wrap64 (x3 + t124)) < (x0.size : Int) then ((strings_IndexByte.f (⟨#[45, 95]⟩ : ByteArray) (bt x0 (wrap64 (x3 + t124)))).bind fun t125 => (if t125 ≥ 0 then (some 0) else (some (wrap64 ((wrap64 (x3 + 1)) + t124))))) else (none)) else (none)))) else (none)) else (none))
def auto_mailbox.f (k : Nat) (a0 : ByteArray) : Option (Int) := (auto_while.f k a0 (⟨#[46, 45, 95, 43]⟩ : ByteArray)).bind fun t122 => (if t122 = 0 then (auto_mailbox.j0 k a0 t122 true) else (if 0 ≤ t122 then (if t122 ≤ (a0.size : Int) then ((strings_HasPrefix.f (a0.extract (t122 : Int).toNat a0.size) (⟨#[64]⟩ : ByteArray)).bind fun t123 => (auto_mailbox.j0 k a0 t122 (!t123))) else (none)) else (none)))
theorem auto_mailbox.mono_l : ∀ k, (∀ y0 y1 y2, LeO (auto_mailbox.j0 k y0 y1 y2) (auto_mailbox.j0 (k + 1) y0 y1 y2))
  | 0 => fun _ _ _ r h => by simp [auto_mailbox.j0] at h
  | k + 1 => by
    have ih0 := auto_mailbox.mono_l k
    · intro y0 y1 y2
      unfold auto_mailbox.j0
      repeat' first
      | (with_reducible exact ih0 _ _ _)
      | (with_reducible exact auto_host.mono _ _)
      | (with_reducible exact auto_while.mono _ _ _)
      | (with_reducible exact LeO.refl _)
      | (with_reducible exact LeO.none _)
      | (with_reducible refine LeO.ite ?_ ?_)
      | (with_reducible refine LeO.bind ?_ (fun _ => ?_))
      | exact ih0 _ _ _
      | exact auto_host.mono _ _
      | exact auto_while.mono _ _ _
      | exact LeO.none _
      | refine LeO.ite ?_ ?_
      | refine LeO.bind ?_ (fun _ => ?_)
theorem auto_mailbox.mono : ∀ a0 k, LeO (auto_mailbox.f k a0) (auto_mailbox.f (k + 1) a0) := by
  intro a0 k
  have ih0 := auto_mailbox.mono_l k
  unfold auto_mailbox.f
  repeat' first
      | (with_reducible exact ih0 _ _ _)
      | (with_reducible exact auto_host.mono _ _)
      | (with_reducible exact auto_while.mono _ _ _)
      | (with_reducible exact LeO.refl _)
      | (with_reducible exact LeO.none _)
      | (with_reducible refine LeO.ite ?_ ?_)
      | (with_reducible refine LeO.bind ?_ (fun _ => ?_))
      | exact ih0 _ _ _
      | exact auto_host.mono _ _
      | exact auto_while.mono _ _ _
      | exact LeO.none _
      | refine LeO.ite ?_ ?_
      | refine LeO.bind ?_ (fun _ => ?_)
set_option maxHeartbeats 8000000 in
set_option maxRecDepth 100000 in
theorem auto_mailbox.calls (k : Nat) (a0 : ByteArray) (r : Int) (w : World) (hLd : Laid w) (h : auto_mailbox.f k a0 = some r) :
    Calls Tryd.prog 23 #[.string a0] w fun e w' => e = .returned (.int .i64 r) ∧ Below w.heap.size w w' := by
  have HB := Aside0.mk (Below.refl w.heap.size w)
  have H : ((auto_while.f k a0 (⟨#[46, 45, 95, 43]⟩ : ByteArray)).bind fun t122 => (if t122 = 0 then (auto_mailbox.j0 k a0 t122 true) else (if 0 ≤ t122 then (if t122 ≤ (a0.size : Int) then ((strings_HasPrefix.f (a0.extract (t122 : Int).toNat a0.size) (⟨#[64]⟩ : ByteArray)).bind fun t123 => (auto_mailbox.j0 k a0 t122 (!t123))) else (none)) else (none)))) = some r := h
  clear h
  replace H := Option.bind_eq_some_iff.mp H
  obtain ⟨t122, A20, H⟩ := H
  replace H : (if t122 = 0 then (auto_mailbox.j0 k a0 t122 true) else (if 0 ≤ t122 then (if t122 ≤ (a0.size : Int) then ((strings_HasPrefix.f (a0.extract (t122 : Int).toNat a0.size) (⟨#[64]⟩ : ByteArray)).bind fun t123 => (auto_mailbox.j0 k a0 t122 (!t123))) else (none)) else (none))) = some r := H
  have A2 := Aside0.mk A20
  clear A20
  have HC3 := Aside0.mk H
  clear H
  go_enter Tryd.func23, Tryd.ntmps23
  go_upto_region 2 with (first | ((with_reducible refine gate_callee (f := 31) rfl ?_); refine goesL_ (some 6) rfl rfl Tryd.func31 (by kernel_rfl) rfl #[.string a0, .string (⟨#[46, 45, 95, 43]⟩ : ByteArray)] rfl (by (try simp only [List.map_toArray, List.map_cons, List.map_nil]); first | done | rfl | (simp only [List.length_drop, List.length_take]; rfl)) ?_; (with_reducible refine (auto_while.calls k a0 (⟨#[46, 45, 95, 43]⟩ : ByteArray) t122 _ A2.out).mono ?_); rintro e w' ⟨rfl, ⟨nd, rfl⟩⟩; refine ⟨_, rfl, ?_⟩))
  (try simp only [Act.put, List.setIfInBounds_toArray, List.set_cons_zero, List.set_cons_succ])
  go_cut [15] (fun v15 wc => ∃ (kq : Nat) (x15_2 : Bool), v15 = .bool x15_2 ∧ Aside0 (auto_mailbox.j0 kq a0 t122 x15_2 = some r) ∧ Aside0 (kq ≤ k) ∧ Aside0 (Below w.heap.size w wc))
  case first =>
    have H := HC3.out
    clear HC3
    by_cases c4 : t122 = 0
    · rw [if_pos c4] at H
      have c4b0 : (t122 == 0) = true := beq_iff_eq.mpr c4
      have c4b1 : (t122 != 0) = false := bne_eq_false_iff_eq.mpr c4
      clear c4
      (first | rw [c4b0] | (simp only [i64_w, i32_w]; rw [c4b0]) | skip)
      have H' := Aside0.mk H
      clear H
      go_wp2
      go_meet
      case rel => exact ⟨_, (true), (by first | rfl | (simp; done) | (simp [*]; done)), H', ⟨by first | omega | exact Nat.le_refl _⟩, ⟨by repeat (first | (with_reducible first | exact HB.out | apply below_alloc | apply pw_below_drewN | apply below_drew1) | exact HB.out)⟩⟩
    · rw [if_neg c4] at H
      have c4b0 : (t122 == 0) = false := beq_eq_false_iff_ne.mpr c4
      have c4b1 : (t122 != 0) = true := bne_iff_ne.mpr c4
      (first | rw [c4b0] | (simp only [i64_w, i32_w]; rw [c4b0]) | skip)
      by_cases c5 : 0 ≤ t122
      · rw [if_pos c5] at H
        have c5b0 := eq_true c5
        have c5b1 : decide (0 ≤ t122) = true := decide_eq_true c5
        clear c5
        by_cases c6 : t122 ≤ (a0.size : Int)
        · rw [if_pos c6] at H
          have c6b0 := eq_true c6
          have c6b1 : decide (t122 ≤ (a0.size : Int)) = true := decide_eq_true c6
          clear c6
          replace H := Option.bind_eq_some_iff.mp H
          obtain ⟨t123, A70, H⟩ := H
          replace H : (auto_mailbox.j0 k a0 t122 (!t123)) = some r := H
          have A7 := Aside0.mk A70
          clear A70
          have H' := Aside0.mk H
          clear H
          go_wp2_with (first | (go_at_call 19; (with_reducible refine (strings_HasPrefix.calls (a0.extract (t122 : Int).toNat a0.size) (⟨#[64]⟩ : ByteArray) t123 _ A7.out).mono ?_); rintro e w' ⟨rfl, ⟨nd, rfl⟩⟩))
          go_meet
          case rel => exact ⟨_, (!t123), (by first | rfl | (simp; done) | (simp [*]; done)), H', ⟨by first | omega | exact Nat.le_refl _⟩, ⟨by repeat (first | (with_reducible first | exact HB.out | apply below_alloc | apply pw_below_drewN | apply below_drew1) | exact HB.out)⟩⟩
        · rw [if_neg c6] at H
          exact absurd H (by simp)
      · rw [if_neg c5] at H
        exact absurd H (by simp)
  case rest =>
    clear HC3
    try clear c2
    try clear p2
    try clear c3
    try clear c4
    try clear c4b0
    try clear c4b1
    try clear c5
    try clear c5b0
    try clear c5b1
    try clear c6
    try clear c6b0
    try clear c6b1
    obtain ⟨kq, x15_2, rfl, HA, HJ2, HB⟩ := hcut
    cases kq with
    | zero => exact absurd HA.out (by simp [auto_mailbox.j0])
    | succ kj2 =>
      have H := HA.out
      clear HA
      simp only [auto_mailbox.j0] at H
      by_cases c8 : x15_2 = true
      · subst c8
        have H1 : (some 0) = some r := by rw [if_pos rfl] at H; exact H
        clear H
        have H := H1
        clear H1
        obtain rfl := Option.some.inj H
        go_wp2
        go_ret
        exact ⟨by first | rfl | (simp [errW_none, errW_some] <;> rfl) | (simp [*, errW_none, errW_some] <;> rfl), by repeat (first | (with_reducible first | exact HB.out | apply below_alloc | apply pw_below_drewN | apply below_drew1) | exact HB.out)⟩
      · replace c8 := Bool.eq_false_iff.mpr c8
        subst c8
        have H1 : (if 0 ≤ (wrap64 (t122 + 1)) then (if (wrap64 (t122 + 1)) ≤ (a0.size : Int) then ((auto_host.f kj2 (a0.extract ((wrap64 (t122 + 1)) : Int).toNat a0.size)).bind fun t124 => (if t124 = 0 then (some 0) else (if 0 ≤ (wrap64 (t122 + t124)) then (if (wrap64 (t122 + t124)) < (a0.size : Int) then ((strings_IndexByte.f (⟨#[45, 95]⟩ : ByteArray) (bt a0 (wrap64 (t122 + t124)))).bind fun t125 => (if t125 ≥ 0 then (some 0) else (some (wrap64 ((wrap64 (t122 + 1)) + t124))))) else (none)) else (none)))) else (none)) else (none)) = some r := by rw [if_neg (show ¬ (false = true) by decide)] at H; exact H
        clear H
        have H := H1
        clear H1
        obtain ⟨ji9, hji9⟩ : ∃ j_ : Int, (wrap64 (t122 + 1)) = j_ := ⟨_, rfl⟩
        replace H : (if 0 ≤ (ji9) then (if (ji9) ≤ (a0.size : Int) then ((auto_host.f kj2 (a0.extract ((ji9) : Int).toNat a0.size)).bind fun t124 => (if t124 = 0 then (some 0) else (if 0 ≤ (wrap64 (t122 + t124)) then (if (wrap64 (t122 + t124)) < (a0.size : Int) then ((strings_IndexByte.f (⟨#[45, 95]⟩ : ByteArray) (bt a0 (wrap64 (t122 + t124)))).bind fun t125 => (if t125 ≥ 0 then (some 0) else (some (wrap64 ((ji9) + t124))))) else (none)) else (none)))) else (none)) else (none)) = some r := by first | (rw [hji9] at H; exact H) | (simp only [hji9] at H ⊢; exact H)
        have hji9w : (IntKind.i64.wrap (t122 + 1)) = ji9 := (i64_w _).trans hji9
        by_cases c10 : 0 ≤ (ji9)
        · rw [if_pos c10] at H
          have c10b0 := eq_true c10
          have c10b1 : decide (0 ≤ (ji9)) = true := decide_eq_true c10
          clear c10
          by_cases c11 : (ji9) ≤ (a0.size : Int)
          · rw [if_pos c11] at H
            have c11b0 := eq_true c11
            have c11b1 : decide ((ji9) ≤ (a0.size : Int)) = true := decide_eq_true c11
            clear c11
            replace H := Option.bind_eq_some_iff.mp H
            obtain ⟨t124, A120, H⟩ := H
            replace H : (if t124 = 0 then (some 0) else (if 0 ≤ (wrap64 (t122 + t124)) then (if (wrap64 (t122 + t124)) < (a0.size : Int) then ((strings_IndexByte.f (⟨#[45, 95]⟩ : ByteArray) (bt a0 (wrap64 (t122 + t124)))).bind fun t125 => (if t125 ≥ 0 then (some 0) else (some (wrap64 ((ji9) + t124))))) else (none)) else (none))) = some r := H
            have A12 := Aside0.mk A120
            clear A120
            by_cases c13 : t124 = 0
            · rw [if_pos c13] at H
              have c13b0 : (t124 == 0) = true := beq_iff_eq.mpr c13
              have c13b1 : (t124 != 0) = false := bne_eq_false_iff_eq.mpr c13
              clear c13
              obtain rfl := Option.some.inj H
              go_wp2_with (first | ((with_reducible refine gate_callee (f := 20) rfl ?_); refine goesL_ (some 20) rfl rfl Tryd.func20 (by kernel_rfl) rfl #[.string (a0.extract ((ji9) : Int).toNat a0.size)] rfl (by (try simp only [List.map_toArray, List.map_cons, List.map_nil]); first | done | (simp only [hji9]; rfl) | rfl | (simp only [List.length_drop, List.length_take]; rfl)) ?_; (with_reducible refine (auto_host.calls kj2 (a0.extract ((ji9) : Int).toNat a0.size) t124 _ ?side1 A12.out).mono ?_); (case side1 => exact Laid.go hLd (by repeat (first | (with_reducible first | exact HB.out | apply below_alloc | apply pw_below_drewN | apply below_drew1) | exact HB.out))); rintro e w14 ⟨rfl, hb⟩; refine ⟨_, rfl, ?_⟩; have n0_ := Aside0.mk (below_step (by repeat (first | (with_reducible first | exact HB.out | apply below_alloc | apply pw_below_drewN | apply below_drew1) | exact HB.out)) hb); clear HB; have HB := n0_; clear n0_; (try clear hb); (try clear hb2); (try clear hk); (try clear hi)))
              go_ret
              exact ⟨by first | rfl | (simp [errW_none, errW_some] <;> rfl) | (simp only [← hji9]; first | rfl | (simp [errW_none, errW_some] <;> rfl)) | (simp [*, errW_none, errW_some] <;> rfl), by repeat (first | (with_reducible first | exact HB.out | apply below_alloc | apply pw_below_drewN | apply below_drew1) | exact HB.out)⟩
            · rw [if_neg c13] at H
              have c13b0 : (t124 == 0) = false := beq_eq_false_iff_ne.mpr c13
              have c13b1 : (t124 != 0) = true := bne_iff_ne.mpr c13
              obtain ⟨ji15, hji15⟩ : ∃ j_ : Int, (wrap64 (t122 + t124)) = j_ := ⟨_, rfl⟩
              replace H : (if 0 ≤ (ji15) then (if (ji15) < (a0.size : Int) then ((strings_IndexByte.f (⟨#[45, 95]⟩ : ByteArray) (bt a0 (ji15))).bind fun t125 => (if t125 ≥ 0 then (some 0) else (some (wrap64 ((ji9) + t124))))) else (none)) else (none)) = some r := by first | (rw [hji15] at H; exact H) | (simp only [hji15] at H ⊢; exact H)
              (try rw [hji15] at A12)
              have hji15w : (IntKind.i64.wrap (t122 + t124)) = ji15 := (i64_w _).trans hji15
              by_cases c16 : 0 ≤ (ji15)
              · rw [if_pos c16] at H
                have c16b0 : decide (0 ≤ (ji15)) = true := decide_eq_true c16
                clear c16
                by_cases c17 : (ji15) < (a0.size : Int)
                · rw [if_pos c17] at H
                  have c17b0 : decide ((ji15) < (a0.size : Int)) = true := decide_eq_true c17
                  clear c17
                  replace H := Option.bind_eq_some_iff.mp H
                  obtain ⟨t125, A190, H⟩ := H
                  replace H : (if t125 ≥ 0 then (some 0) else (some (wrap64 ((ji9) + t124)))) = some r := H
                  have A19 := Aside0.mk A190
                  clear A190
                  by_cases c20 : t125 ≥ 0
                  · rw [if_pos c20] at H
                    have c20b0 : decide (0 ≤ t125) = true := decide_eq_true c20
                    clear c20
                    obtain rfl := Option.some.inj H
                    go_wp2_with (first | ((with_reducible refine gate_callee (f := 20) rfl ?_); refine goesL_ (some 20) rfl rfl Tryd.func20 (by kernel_rfl) rfl #[.string (a0.extract ((ji9) : Int).toNat a0.size)] rfl (by (try simp only [List.map_toArray, List.map_cons, List.map_nil]); first | done | (simp only [hji9]; rfl) | rfl | (simp only [List.length_drop, List.length_take]; rfl)) ?_; (with_reducible refine (auto_host.calls kj2 (a0.extract ((ji9) : Int).toNat a0.size) t124 _ ?side1 A12.out).mono ?_); (case side1 => exact Laid.go hLd (by repeat (first | (with_reducible first | exact HB.out | apply below_alloc | apply pw_below_drewN | apply below_drew1) | exact HB.out))); rintro e w21 ⟨rfl, hb⟩; refine ⟨_, rfl, ?_⟩; have n0_ := Aside0.mk (below_step (by repeat (first | (with_reducible first | exact HB.out | apply below_alloc | apply pw_below_drewN | apply below_drew1) | exact HB.out)) hb); clear HB; have HB := n0_; clear n0_; (try clear hb); (try clear hb2); (try clear hk); (try clear hi); have p18 : 0 ≤ ((ji15) : Int) := of_decide_eq_true (by first | (with_reducible assumption) | assumption); have q18 : (ji15) < (a0.size : Int) := of_decide_eq_true (by first | (with_reducible assumption) | assumption); have hx18 := bt_at a0 (ji15); replace p18 := eq_true p18; replace q18 := eq_true q18) | (go_at_call 13; (with_reducible refine (strings_IndexByte.calls (⟨#[45, 95]⟩ : ByteArray) (bt a0 (ji15)) t125 _ A19.out).mono ?_); rintro e w' ⟨rfl, ⟨nd, rfl⟩⟩))
                    go_ret
                    exact ⟨by first | rfl | (simp [errW_none, errW_some] <;> rfl) | (simp only [← hji9, ← hji15]; first | rfl | (simp [errW_none, errW_some] <;> rfl)) | (simp [*, errW_none, errW_some] <;> rfl), by repeat (first | (with_reducible first | exact HB.out | apply below_alloc | apply pw_below_drewN | apply below_drew1) | exact HB.out)⟩
                  · rw [if_neg c20] at H
                    have c20b0 : decide (0 ≤ t125) = false := decide_eq_false c20
                    clear c20
                    obtain rfl := Option.some.inj H
                    go_wp2_with (first | ((with_reducible refine gate_callee (f := 20) rfl ?_); refine goesL_ (some 20) rfl rfl Tryd.func20 (by kernel_rfl) rfl #[.string (a0.extract ((ji9) : Int).toNat a0.size)] rfl (by (try simp only [List.map_toArray, List.map_cons, List.map_nil]); first | done | (simp only [hji9]; rfl) | rfl | (simp only [List.length_drop, List.length_take]; rfl)) ?_; (with_reducible refine (auto_host.calls kj2 (a0.extract ((ji9) : Int).toNat a0.size) t124 _ ?side1 A12.out).mono ?_); (case side1 => exact Laid.go hLd (by repeat (first | (with_reducible first | exact HB.out | apply below_alloc | apply pw_below_drewN | apply below_drew1) | exact HB.out))); rintro e w22 ⟨rfl, hb⟩; refine ⟨_, rfl, ?_⟩; have n0_ := Aside0.mk (below_step (by repeat (first | (with_reducible first | exact HB.out | apply below_alloc | apply pw_below_drewN | apply below_drew1) | exact HB.out)) hb); clear HB; have HB := n0_; clear n0_; (try clear hb); (try clear hb2); (try clear hk); (try clear hi); have p18 : 0 ≤ ((ji15) : Int) := of_decide_eq_true (by first | (with_reducible assumption) | assumption); have q18 : (ji15) < (a0.size : Int) := of_decide_eq_true (by first | (with_reducible assumption) | assumption); have hx18 := bt_at a0 (ji15); replace p18 := eq_true p18; replace q18 := eq_true q18) | (go_at_call 13; (with_reducible refine (strings_IndexByte.calls (⟨#[45, 95]⟩ : ByteArray) (bt a0 (ji15)) t125 _ A19.out).mono ?_); rintro e w' ⟨rfl, ⟨nd, rfl⟩⟩))
                    go_ret
                    exact ⟨by first | rfl | (simp [errW_none, errW_some] <;> rfl) | (simp only [← hji9, ← hji15]; first | rfl | (simp [errW_none, errW_some] <;> rfl)) | (simp [*, errW_none, errW_some] <;> rfl), by repeat (first | (with_reducible first | exact HB.out | apply below_alloc | apply pw_below_drewN | apply below_drew1) | exact HB.out)⟩
                · rw [if_neg c17] at H
                  exact absurd H (by simp)
              · rw [if_neg c16] at H
                exact absurd H (by simp)
          · rw [if_neg c11] at H
            exact absurd H (by simp)
        · rw [if_neg c10] at H
          exact absurd H (by simp)

/-! ### auto_one: function 14 -/
mutual
def auto_one.j0 : Nat → ByteArray → Option (ByteArray × Int)
  | 0, _ => none
  | k + 1, x0 => (some (([(⟨#[104, 116, 116, 112, 58, 47, 47]⟩ : ByteArray), (⟨#[104, 116, 116, 112, 115, 58, 47, 47]⟩ : ByteArray)] : List ByteArray) : List ByteArray)).bind fun y129 => (auto_one.l0 k x0 y129 (y129.length : Int) 0)
def auto_one.l0 : Nat → ByteArray → List ByteArray → Int → Int → Option (ByteArray × Int)
  | 0, _, _, _, _ => none
  | k + 1, x0, x27, x28, x29 => if x29 < x28 then (if 0 ≤ x29 then (if x29 < (x27.length : Int) then ((strings_CutPrefix.f x0 (rdOf ByteArray.empty x27 x29)).bind fun bt134 => (if bt134.2 = true then ((auto_host.f k bt134.1).bind fun t136 => (if t136 > 0 then ((auto_tail.f k x0 (wrap64 (((rdOf ByteArray.empty x27 x29).size : Int) + t136))).bind fun t137 => (if 0 ≤ t137 then (if t137 ≤ (x0.size : Int) then (some (x0.extract 0 (t137 : Int).toNat, t137)) else (none)) else (none))) else (auto_one.l0 k x0 x27 x28 (wrap64 (x29 + 1))))) else (auto_one.l0 k x0 x27 x28 (wrap64 (x29 + 1))))) else (none)) else (none)) else ((auto_mailbox.f k x0).bind fun t132 => (if t132 = 0 then (some ((⟨#[]⟩ : ByteArray), 0)) else (if 0 ≤ t132 then (if t132 ≤ (x0.size : Int) then (if 7 + (x0.extract 0 (t132 : Int).toNat).size ≤ 9223372036854775807 then (some ((⟨#[109, 97, 105, 108, 116, 111, 58]⟩ : ByteArray) ++ (x0.extract 0 (t132 : Int).toNat), t132)) else (none)) else (none)) else (none))))
end
def auto_one.f (k : Nat) (a0 : ByteArray) : Option (ByteArray × Int) := (strings_HasPrefix.f a0 (⟨#[119, 119, 119, 46]⟩ : ByteArray)).bind fun t126 => (if t126 = true then ((auto_host.f k a0).bind fun t127 => (if t127 > 4 then ((auto_tail.f k a0 t127).bind fun t128 => (if 0 ≤ t128 then (if t128 ≤ (a0.size : Int) then (if 7 + (a0.extract 0 (t128 : Int).toNat).size ≤ 9223372036854775807 then (some ((⟨#[104, 116, 116, 112, 58, 47, 47]⟩ : ByteArray) ++ (a0.extract 0 (t128 : Int).toNat), t128)) else (none)) else (none)) else (none))) else (auto_one.j0 k a0))) else (auto_one.j0 k a0))
theorem auto_one.mono_l : ∀ k, (∀ y0, LeO (auto_one.j0 k y0) (auto_one.j0 (k + 1) y0)) ∧ (∀ y0 y1 y2 y3, LeO (auto_one.l0 k y0 y1 y2 y3) (auto_one.l0 (k + 1) y0 y1 y2 y3))
  | 0 => ⟨fun _ r h => by simp [auto_one.j0] at h, fun _ _ _ _ r h => by simp [auto_one.l0] at h⟩
  | k + 1 => by
    obtain ⟨ih0, ih1⟩ := auto_one.mono_l k
    refine ⟨?_, ?_⟩
    · intro y0
      unfold auto_one.j0
      repeat' first
      | (with_reducible exact ih0 _)
      | (with_reducible exact ih1 _ _ _ _)
      | (with_reducible exact auto_host.mono _ _)
      | (with_reducible exact auto_mailbox.mono _ _)
      | (with_reducible exact auto_tail.mono _ _ _)
      | (with_reducible exact LeO.refl _)
      | (with_reducible exact LeO.none _)
      | (with_reducible refine LeO.ite ?_ ?_)
      | (with_reducible refine LeO.bind ?_ (fun _ => ?_))
      | exact ih0 _
      | exact ih1 _ _ _ _
      | exact auto_host.mono _ _
      | exact auto_mailbox.mono _ _
      | exact auto_tail.mono _ _ _
      | exact LeO.none _
      | refine LeO.ite ?_ ?_
      | refine LeO.bind ?_ (fun _ => ?_)
    · intro y0 y1 y2 y3
      unfold auto_one.l0
      repeat' first
      | (with_reducible exact ih0 _)
      | (with_reducible exact ih1 _ _ _ _)
      | (with_reducible exact auto_host.mono _ _)
      | (with_reducible exact auto_mailbox.mono _ _)
      | (with_reducible exact auto_tail.mono _ _ _)
      | (with_reducible exact LeO.refl _)
      | (with_reducible exact LeO.none _)
      | (with_reducible refine LeO.ite ?_ ?_)
      | (with_reducible refine LeO.bind ?_ (fun _ => ?_))
      | exact ih0 _
      | exact ih1 _ _ _ _
      | exact auto_host.mono _ _
      | exact auto_mailbox.mono _ _
      | exact auto_tail.mono _ _ _
      | exact LeO.none _
      | refine LeO.ite ?_ ?_
      | refine LeO.bind ?_ (fun _ => ?_)
theorem auto_one.mono : ∀ a0 k, LeO (auto_one.f k a0) (auto_one.f (k + 1) a0) := by
  intro a0 k
  obtain ⟨ih0, ih1⟩ := auto_one.mono_l k
  unfold auto_one.f
  repeat' first
      | (with_reducible exact ih0 _)
      | (with_reducible exact ih1 _ _ _ _)
      | (with_reducible exact auto_host.mono _ _)
      | (with_reducible exact auto_mailbox.mono _ _)
      | (with_reducible exact auto_tail.mono _ _ _)
      | (with_reducible exact LeO.refl _)
      | (with_reducible exact LeO.none _)
      | (with_reducible refine LeO.ite ?_ ?_)
      | (with_reducible refine LeO.bind ?_ (fun _ => ?_))
      | exact ih0 _
      | exact ih1 _ _ _ _
      | exact auto_host.mono _ _
      | exact auto_mailbox.mono _ _
      | exact auto_tail.mono _ _ _
      | exact LeO.none _
      | refine LeO.ite ?_ ?_
      | refine LeO.bind ?_ (fun _ => ?_)
set_option maxHeartbeats 8000000 in
set_option maxRecDepth 100000 in
theorem auto_one.calls (k : Nat) (a0 : ByteArray) (r1 : ByteArray) (r2 : Int) (w : World) (hLd : Laid w) (h : auto_one.f k a0 = some (r1, r2)) :
    Calls Tryd.prog 14 #[.string a0] w fun e w' => e = .returned (.tuple #[.string r1, .int .i64 r2]) ∧ Below w.heap.size w w' := by
  have HB := Aside0.mk (Below.refl w.heap.size w)
  have H : ((strings_HasPrefix.f a0 (⟨#[119, 119, 119, 46]⟩ : ByteArray)).bind fun t126 => (if t126 = true then ((auto_host.f k a0).bind fun t127 => (if t127 > 4 then ((auto_tail.f k a0 t127).bind fun t128 => (if 0 ≤ t128 then (if t128 ≤ (a0.size : Int) then (if 7 + (a0.extract 0 (t128 : Int).toNat).size ≤ 9223372036854775807 then (some ((⟨#[104, 116, 116, 112, 58, 47, 47]⟩ : ByteArray) ++ (a0.extract 0 (t128 : Int).toNat), t128)) else (none)) else (none)) else (none))) else (auto_one.j0 k a0))) else (auto_one.j0 k a0))) = some (r1, r2) := h
  clear h
  replace H := Option.bind_eq_some_iff.mp H
  obtain ⟨t126, A20, H⟩ := H
  replace H : (if t126 = true then ((auto_host.f k a0).bind fun t127 => (if t127 > 4 then ((auto_tail.f k a0 t127).bind fun t128 => (if 0 ≤ t128 then (if t128 ≤ (a0.size : Int) then (if 7 + (a0.extract 0 (t128 : Int).toNat).size ≤ 9223372036854775807 then (some ((⟨#[104, 116, 116, 112, 58, 47, 47]⟩ : ByteArray) ++ (a0.extract 0 (t128 : Int).toNat), t128)) else (none)) else (none)) else (none))) else (auto_one.j0 k a0))) else (auto_one.j0 k a0)) = some (r1, r2) := H
  have A2 := Aside0.mk A20
  clear A20
  have HC3 := Aside0.mk H
  clear H
  go_enter Tryd.func14, Tryd.ntmps14
  go_upto_if 14 with (first | ((with_reducible refine gate_callee (f := 19) rfl ?_); refine goesL_ (some 14) rfl rfl Tryd.func19 (by kernel_rfl) rfl #[.string a0, .string (⟨#[119, 119, 119, 46]⟩ : ByteArray)] rfl (by (try simp only [List.map_toArray, List.map_cons, List.map_nil]); first | done | rfl | (simp only [List.length_drop, List.length_take]; rfl)) ?_; (with_reducible refine (strings_HasPrefix.calls a0 (⟨#[119, 119, 119, 46]⟩ : ByteArray) t126 _ A2.out).mono ?_); rintro e w' ⟨rfl, ⟨nd, rfl⟩⟩; refine ⟨_, rfl, ?_⟩))
  (try simp only [Act.put, List.setIfInBounds_toArray, List.set_cons_zero, List.set_cons_succ])
  go_cut [] (fun wc => ∃ (kq : Nat), Aside0 (auto_one.j0 kq a0 = some (r1, r2)) ∧ Aside0 (kq ≤ k) ∧ Aside0 (Below w.heap.size w wc))
  case first =>
    have H := HC3.out
    clear HC3
    by_cases c4 : t126 = true
    · subst c4
      have H1 : ((auto_host.f k a0).bind fun t127 => (if t127 > 4 then ((auto_tail.f k a0 t127).bind fun t128 => (if 0 ≤ t128 then (if t128 ≤ (a0.size : Int) then (if 7 + (a0.extract 0 (t128 : Int).toNat).size ≤ 9223372036854775807 then (some ((⟨#[104, 116, 116, 112, 58, 47, 47]⟩ : ByteArray) ++ (a0.extract 0 (t128 : Int).toNat), t128)) else (none)) else (none)) else (none))) else (auto_one.j0 k a0))) = some (r1, r2) := by rw [if_pos rfl] at H; exact H
      clear H
      have H := H1
      clear H1
      replace H := Option.bind_eq_some_iff.mp H
      obtain ⟨t127, A50, H⟩ := H
      replace H : (if t127 > 4 then ((auto_tail.f k a0 t127).bind fun t128 => (if 0 ≤ t128 then (if t128 ≤ (a0.size : Int) then (if 7 + (a0.extract 0 (t128 : Int).toNat).size ≤ 9223372036854775807 then (some ((⟨#[104, 116, 116, 112, 58, 47, 47]⟩ : ByteArray) ++ (a0.extract 0 (t128 : Int).toNat), t128)) else (none)) else (none)) else (none))) else (auto_one.j0 k a0)) = some (r1, r2) := H
      have A5 := Aside0.mk A50
      clear A50
      by_cases c6 : t127 > 4
      · rw [if_pos c6] at H
        have c6b0 : decide (4 < t127) = true := decide_eq_true c6
        clear c6
        (first | rw [c6b0] | (simp only [i64_w, i32_w]; rw [c6b0]) | skip)
        replace H := Option.bind_eq_some_iff.mp H
        obtain ⟨t128, A70, H⟩ := H
        replace H : (if 0 ≤ t128 then (if t128 ≤ (a0.size : Int) then (if 7 + (a0.extract 0 (t128 : Int).toNat).size ≤ 9223372036854775807 then (some ((⟨#[104, 116, 116, 112, 58, 47, 47]⟩ : ByteArray) ++ (a0.extract 0 (t128 : Int).toNat), t128)) else (none)) else (none)) else (none)) = some (r1, r2) := H
        have A7 := Aside0.mk A70
        clear A70
        by_cases c8 : 0 ≤ t128
        · rw [if_pos c8] at H
          have c8b0 := eq_true c8
          have c8b1 : decide (0 ≤ t128) = true := decide_eq_true c8
          clear c8
          by_cases c9 : t128 ≤ (a0.size : Int)
          · rw [if_pos c9] at H
            have c9b0 := eq_true c9
            have c9b1 : decide (t128 ≤ (a0.size : Int)) = true := decide_eq_true c9
            clear c9
            by_cases c10 : 7 + (a0.extract 0 (t128 : Int).toNat).size ≤ 9223372036854775807
            · rw [if_pos c10] at H
              have c10b0 := eq_true c10
              have c10b1 : decide (7 + (a0.extract 0 (t128 : Int).toNat).size ≤ 9223372036854775807) = true := decide_eq_true c10
              have c10b4 := c10
              (try simp only [ByteArray.size_append, ByteArray.size_extract, Nat.min_self] at c10b4)
              (try have c10b5 := Nat.not_lt.2 c10b4)
              (try have c10b7 : ¬ 9223372036854775807 < 7 + (a0.extract 0 (t128 : Int).toNat).size := by have hh := c10; simp only [ByteArray.size_append] at hh; exact Nat.not_lt.2 hh)
              (try have c10b9 : ¬ 9223372036854775807 < 7 + min (t128 : Int).toNat a0.size := by have hh := c10; simp only [ByteArray.size_append, ByteArray.size_extract, Nat.min_self] at hh; first | exact Nat.not_lt.2 hh | (have hh2 := hh; simp only [ByteArray.size] at hh2 ⊢; omega))
              (try have c10b6 : ¬ 9223372036854775807 < 7 + (t128 : Int).toNat := by have hh := c10; (try simp only [decide_eq_true_eq] at *); simp only [ByteArray.size_extract] at hh; omega)
              try have c10b2 : (9223372036854775807 < 7 + (a0.extract 0 (t128 : Int).toNat).size) = False := eq_false (Nat.not_lt.2 c10)
              simp only [Option.some.injEq, Prod.mk.injEq] at H
              obtain ⟨rfl, rfl⟩ := H
              go_wp2_with (first | ((with_reducible refine gate_callee (f := 20) rfl ?_); refine goesL_ (some 16) rfl rfl Tryd.func20 (by kernel_rfl) rfl #[.string a0] rfl (by (try simp only [List.map_toArray, List.map_cons, List.map_nil]); first | done | rfl | (simp only [List.length_drop, List.length_take]; rfl)) ?_; (with_reducible refine (auto_host.calls k a0 t127 _ ?side1 A5.out).mono ?_); (case side1 => exact Laid.go hLd (by repeat (first | (with_reducible first | exact HB.out | apply below_alloc | apply pw_below_drewN | apply below_drew1) | exact HB.out))); rintro e w11 ⟨rfl, hb⟩; refine ⟨_, rfl, ?_⟩; have n0_ := Aside0.mk (below_step (by repeat (first | (with_reducible first | exact HB.out | apply below_alloc | apply pw_below_drewN | apply below_drew1) | exact HB.out)) hb); clear HB; have HB := n0_; clear n0_; (try clear hb); (try clear hb2); (try clear hk); (try clear hi)) | ((with_reducible refine gate_callee (f := 21) rfl ?_); refine goesL_ (some 21) rfl rfl Tryd.func21 (by kernel_rfl) rfl #[.string a0, .int .i64 t127] rfl (by (try simp only [List.map_toArray, List.map_cons, List.map_nil]); first | done | rfl | (simp only [List.length_drop, List.length_take]; rfl)) ?_; (with_reducible refine (auto_tail.calls k a0 t127 t128 _ A7.out).mono ?_); rintro e w12 ⟨rfl, hb⟩; refine ⟨_, rfl, ?_⟩; have n0_ := Aside0.mk (below_step (by repeat (first | (with_reducible first | exact HB.out | apply below_alloc | apply pw_below_drewN | apply below_drew1) | exact HB.out)) hb); clear HB; have HB := n0_; clear n0_; (try clear hb); (try clear hb2); (try clear hk); (try clear hi)))
              go_ret2
              exact ⟨by first | rfl | (simp [errW_none, errW_some] <;> rfl) | (simp [*, errW_none, errW_some] <;> rfl), by repeat (first | (with_reducible first | exact HB.out | apply below_alloc | apply pw_below_drewN | apply below_drew1) | exact HB.out)⟩
            · rw [if_neg c10] at H
              exact absurd H (by simp)
          · rw [if_neg c9] at H
            exact absurd H (by simp)
        · rw [if_neg c8] at H
          exact absurd H (by simp)
      · rw [if_neg c6] at H
        have c6b0 : decide (4 < t127) = false := decide_eq_false c6
        clear c6
        (first | rw [c6b0] | (simp only [i64_w, i32_w]; rw [c6b0]) | skip)
        have H' := Aside0.mk H
        clear H
        go_wp2_with (first | ((with_reducible refine gate_callee (f := 20) rfl ?_); refine goesL_ (some 16) rfl rfl Tryd.func20 (by kernel_rfl) rfl #[.string a0] rfl (by (try simp only [List.map_toArray, List.map_cons, List.map_nil]); first | done | rfl | (simp only [List.length_drop, List.length_take]; rfl)) ?_; (with_reducible refine (auto_host.calls k a0 t127 _ ?side1 A5.out).mono ?_); (case side1 => exact Laid.go hLd (by repeat (first | (with_reducible first | exact HB.out | apply below_alloc | apply pw_below_drewN | apply below_drew1) | exact HB.out))); rintro e w13 ⟨rfl, hb⟩; refine ⟨_, rfl, ?_⟩; have n0_ := Aside0.mk (below_step (by repeat (first | (with_reducible first | exact HB.out | apply below_alloc | apply pw_below_drewN | apply below_drew1) | exact HB.out)) hb); clear HB; have HB := n0_; clear n0_; (try clear hb); (try clear hb2); (try clear hk); (try clear hi)))
        go_meet
        case rel => exact ⟨_, H', ⟨by first | omega | exact Nat.le_refl _⟩, ⟨by repeat (first | (with_reducible first | exact HB.out | apply below_alloc | apply pw_below_drewN | apply below_drew1) | exact HB.out)⟩⟩
    · replace c4 := Bool.eq_false_iff.mpr c4
      subst c4
      have H1 : (auto_one.j0 k a0) = some (r1, r2) := by rw [if_neg (show ¬ (false = true) by decide)] at H; exact H
      clear H
      have H := H1
      clear H1
      have H' := Aside0.mk H
      clear H
      go_wp2
      go_meet
      case rel => exact ⟨_, H', ⟨by first | omega | exact Nat.le_refl _⟩, ⟨by repeat (first | (with_reducible first | exact HB.out | apply below_alloc | apply pw_below_drewN | apply below_drew1) | exact HB.out)⟩⟩
  case rest =>
    clear HC3
    try clear c1
    try clear c2
    try clear p2
    try clear c4
    try clear c6
    try clear c6b0
    try clear c8
    try clear c8b0
    try clear c8b1
    try clear c9
    try clear c9b0
    try clear c9b1
    try clear c10
    try clear c10b0
    try clear c10b1
    try clear c10b2
    obtain ⟨kq, HA, HJ2, HB⟩ := hcut
    cases kq with
    | zero => exact absurd HA.out (by simp [auto_one.j0])
    | succ kj2 =>
      have H := HA.out
      clear HA
      simp only [auto_one.j0] at H
      obtain ⟨y129, hy129⟩ : ∃ y_ : List ByteArray, y_ = (([(⟨#[104, 116, 116, 112, 58, 47, 47]⟩ : ByteArray), (⟨#[104, 116, 116, 112, 115, 58, 47, 47]⟩ : ByteArray)] : List ByteArray)) := ⟨_, rfl⟩
      replace H : (auto_one.l0 kj2 a0 y129 (y129.length : Int) 0) = some (r1, r2) := by first | (rw [hy129]; with_reducible exact H) | (have H2_ := (Option.bind_some _ _).symm.trans H; rw [hy129]; with_reducible exact H2_) | (have H2_ := (Option.bind_some _ _).symm.trans H; with_reducible exact H2_) | with_reducible exact H | (rw [hy129]; exact H) | exact H
      have Ny129 := Aside0.mk hy129
      clear hy129
      have H' := Aside0.mk H
      clear H
      go_wp2_with (first | ((with_reducible refine gate_dst (N := 27) rfl ?_); refine Kd.R_lit Kd.string _ 9 ?hg (N := 27) ?hd (xs := ([(⟨#[104, 116, 116, 112, 58, 47, 47]⟩ : ByteArray), (⟨#[104, 116, 116, 112, 115, 58, 47, 47]⟩ : ByteArray)] : List ByteArray)) (inner := [.string (⟨#[104, 116, 116, 112, 58, 47, 47]⟩ : ByteArray), .string (⟨#[104, 116, 116, 112, 115, 58, 47, 47]⟩ : ByteArray)]) (ok := fun _ => True) (okp := fun _ => True) ?hr ?hp (fun _ hk => hk) trivial (Below.refl _ _) (Nat.le_refl _) (by simp) ?_; (case hd => rfl); (case hg => rfl); (case hr => first | (go_simp; done) | (go_simp; rfl)); (case hp => exact (Reps.one (show Kd.M Kd.string _ _ _ (⟨#[104, 116, 116, 112, 58, 47, 47]⟩ : ByteArray) [.string (⟨#[104, 116, 116, 112, 58, 47, 47]⟩ : ByteArray)] from rfl) (Reps.one (show Kd.M Kd.string _ _ _ (⟨#[104, 116, 116, 112, 115, 58, 47, 47]⟩ : ByteArray) [.string (⟨#[104, 116, 116, 112, 115, 58, 47, 47]⟩ : ByteArray)] from rfl) (Reps.none _ _)))); intro v130 w14 ho15 hb hg_ hnew_; clear hg_ hnew_; (first | rw [← Ny129.out] at ho15 | (simp only [Int.reduceToNat] at ho15; rw [← Ny129.out] at ho15)); have n0_ := Aside0.mk (Kd.R_lower ho15 (below_size (by repeat (first | (with_reducible first | exact HB.out | apply below_alloc | apply pw_below_drewN | apply below_drew1) | exact HB.out)))); have n1_ := Aside0.mk (below_step (by repeat (first | (with_reducible first | exact HB.out | apply below_alloc | apply pw_below_drewN | apply below_drew1) | exact HB.out)) hb); clear HB; have HO131 := n0_; have HB := n1_; clear n0_ n1_; clear hb ho15; obtain ⟨Ao16, co16, eo16⟩ := Kd.R_slice HO131.out; subst eo16))
      go_loopg [29] kj2 (fun kq v29 w' => ∃ (x29_2 : Int), v29 = .int .i64 x29_2 ∧ Aside0 (auto_one.l0 kq a0 y129 (y129.length : Int) x29_2 = some (r1, r2)) ∧ Aside0 (kq ≤ kj2) ∧ Aside0 (Kd.R Kd.string 9 w' w.heap.size (fun _ => True) (.slice Ao16 y129.length co16) y129) ∧ Aside0 (Below w.heap.size w w'))
      case atStart => exact ⟨(0), (by first | rfl | (simp; done) | (simp [*]; done)), H', ⟨Nat.le_refl _⟩, ⟨by (with_reducible repeat (first | apply Kd.R_alloc | apply Kd.R_drewN | apply Kd.R_drew)); exact HO131.out⟩, ⟨by repeat (first | (with_reducible first | exact HB.out | apply below_alloc | apply pw_below_drewN | apply below_drew1) | exact HB.out)⟩⟩
      case round =>
        clear H'
        try clear c1
        try clear c2
        try clear p2
        try clear c4
        try clear c6
        try clear c6b0
        try clear c8
        try clear c8b0
        try clear c8b1
        try clear c9
        try clear c9b0
        try clear c9b1
        try clear c10
        try clear c10b0
        try clear c10b1
        try clear c10b2
        try clear c14
        try clear p2
        obtain ⟨x29_2, rfl, HA, HK2, HO_27, HB⟩ := hrel
        cases gk with
        | zero => exact absurd HA.out (by simp [auto_one.l0])
        | succ k2 =>
          have H := HA.out
          clear HA
          simp only [auto_one.l0] at H
          by_cases c17 : x29_2 < (y129.length : Int)
          · rw [if_pos c17] at H
            have c17b0 : decide (x29_2 < (y129.length : Int)) = true := decide_eq_true c17
            clear c17
            by_cases c18 : 0 ≤ x29_2
            · rw [if_pos c18] at H
              have c18b0 : decide (0 ≤ x29_2) = true := decide_eq_true c18
              clear c18
              by_cases c19 : x29_2 < (y129.length : Int)
              · rw [if_pos c19] at H
                have c19b0 : decide (x29_2 < (y129.length : Int)) = true := decide_eq_true c19
                clear c19
                replace H := Option.bind_eq_some_iff.mp H
                obtain ⟨⟨t134, t135⟩, A200, H⟩ := H
                replace H : (if t135 = true then ((auto_host.f k2 t134).bind fun t136 => (if t136 > 0 then ((auto_tail.f k2 a0 (wrap64 (((rdOf ByteArray.empty y129 x29_2).size : Int) + t136))).bind fun t137 => (if 0 ≤ t137 then (if t137 ≤ (a0.size : Int) then (some (a0.extract 0 (t137 : Int).toNat, t137)) else (none)) else (none))) else (auto_one.l0 k2 a0 y129 (y129.length : Int) (wrap64 (x29_2 + 1))))) else (auto_one.l0 k2 a0 y129 (y129.length : Int) (wrap64 (x29_2 + 1)))) = some (r1, r2) := H
                have A20 := Aside0.mk A200
                clear A200
                by_cases c21 : t135 = true
                · subst c21
                  have H1 : ((auto_host.f k2 t134).bind fun t136 => (if t136 > 0 then ((auto_tail.f k2 a0 (wrap64 (((rdOf ByteArray.empty y129 x29_2).size : Int) + t136))).bind fun t137 => (if 0 ≤ t137 then (if t137 ≤ (a0.size : Int) then (some (a0.extract 0 (t137 : Int).toNat, t137)) else (none)) else (none))) else (auto_one.l0 k2 a0 y129 (y129.length : Int) (wrap64 (x29_2 + 1))))) = some (r1, r2) := by rw [if_pos rfl] at H; exact H
                  clear H
                  have H := H1
                  clear H1
                  replace H := Option.bind_eq_some_iff.mp H
                  obtain ⟨t136, A220, H⟩ := H
                  replace H : (if t136 > 0 then ((auto_tail.f k2 a0 (wrap64 (((rdOf ByteArray.empty y129 x29_2).size : Int) + t136))).bind fun t137 => (if 0 ≤ t137 then (if t137 ≤ (a0.size : Int) then (some (a0.extract 0 (t137 : Int).toNat, t137)) else (none)) else (none))) else (auto_one.l0 k2 a0 y129 (y129.length : Int) (wrap64 (x29_2 + 1)))) = some (r1, r2) := H
                  have A22 := Aside0.mk A220
                  clear A220
                  by_cases c23 : t136 > 0
                  · rw [if_pos c23] at H
                    have c23b0 : decide (0 < t136) = true := decide_eq_true c23
                    clear c23
                    replace H := Option.bind_eq_some_iff.mp H
                    obtain ⟨t137, A240, H⟩ := H
                    replace H : (if 0 ≤ t137 then (if t137 ≤ (a0.size : Int) then (some (a0.extract 0 (t137 : Int).toNat, t137)) else (none)) else (none)) = some (r1, r2) := H
                    have A24 := Aside0.mk A240
                    clear A240
                    by_cases c25 : 0 ≤ t137
                    · rw [if_pos c25] at H
                      have c25b0 := eq_true c25
                      have c25b1 : decide (0 ≤ t137) = true := decide_eq_true c25
                      clear c25
                      by_cases c26 : t137 ≤ (a0.size : Int)
                      · rw [if_pos c26] at H
                        have c26b0 := eq_true c26
                        have c26b1 : decide (t137 ≤ (a0.size : Int)) = true := decide_eq_true c26
                        clear c26
                        simp only [Option.some.injEq, Prod.mk.injEq] at H
                        obtain ⟨rfl, rfl⟩ := H
                        have p133 : 0 ≤ (x29_2 : Int) := of_decide_eq_true (by first | (with_reducible assumption) | assumption)
                        have q133 : x29_2 < (y129.length : Int) := of_decide_eq_true (by first | (with_reducible assumption) | assumption)
                        obtain ⟨ad133, e133, hx133_0⟩ := Kd.at_string (Kd.R_reads' HO_27.out).2.2 x29_2 p133 q133
                        cases e133
                        replace p133 := eq_true p133
                        replace q133 := eq_true q133
                        go_wp2_with (first | ((with_reducible refine gate_callee (f := 22) rfl ?_); refine goesL_ (some 36) rfl rfl Tryd.func22 (by kernel_rfl) rfl #[.string a0, .string (rdOf ByteArray.empty y129 x29_2)] rfl (by (try simp only [List.map_toArray, List.map_cons, List.map_nil]); first | done | rfl | (simp only [List.length_drop, List.length_take]; rfl)) ?_; (with_reducible refine (strings_CutPrefix.calls a0 (rdOf ByteArray.empty y129 x29_2) t134 true _ A20.out).mono ?_); rintro e w' ⟨rfl, ⟨nd, rfl⟩⟩; refine ⟨_, rfl, ?_⟩) | ((with_reducible refine gate_callee (f := 20) rfl ?_); refine goesL_ (some 42) rfl rfl Tryd.func20 (by kernel_rfl) rfl #[.string t134] rfl (by (try simp only [List.map_toArray, List.map_cons, List.map_nil]); first | done | rfl | (simp only [List.length_drop, List.length_take]; rfl)) ?_; (with_reducible refine (auto_host.calls k2 t134 t136 _ ?side1 A22.out).mono ?_); (case side1 => exact Laid.go hLd (by repeat (first | (with_reducible first | exact HB.out | apply below_alloc | apply pw_below_drewN | apply below_drew1) | exact HB.out))); rintro e w27 ⟨rfl, hb⟩; refine ⟨_, rfl, ?_⟩; have n0_ := Aside0.mk (Kd.R_below (by (with_reducible repeat (first | apply Kd.R_alloc | apply Kd.R_drewN | apply Kd.R_drew)); exact HO_27.out) hb); have n1_ := Aside0.mk (below_step (by repeat (first | (with_reducible first | exact HB.out | apply below_alloc | apply pw_below_drewN | apply below_drew1) | exact HB.out)) hb); clear HO_27; clear HB; have HO_27 := n0_; have HB := n1_; clear n0_ n1_; (try clear hb); (try clear hb2); (try clear hk); (try clear hi)) | ((with_reducible refine gate_callee (f := 21) rfl ?_); refine goesL_ (some 50) rfl rfl Tryd.func21 (by kernel_rfl) rfl #[.string a0, .int .i64 (wrap64 (((rdOf ByteArray.empty y129 x29_2).size : Int) + t136))] rfl (by (try simp only [List.map_toArray, List.map_cons, List.map_nil]); first | done | rfl | (simp only [List.length_drop, List.length_take]; rfl)) ?_; (with_reducible refine (auto_tail.calls k2 a0 (wrap64 (((rdOf ByteArray.empty y129 x29_2).size : Int) + t136)) t137 _ A24.out).mono ?_); rintro e w28 ⟨rfl, hb⟩; refine ⟨_, rfl, ?_⟩; have n0_ := Aside0.mk (Kd.R_below (by (with_reducible repeat (first | apply Kd.R_alloc | apply Kd.R_drewN | apply Kd.R_drew)); exact HO_27.out) hb); have n1_ := Aside0.mk (below_step (by repeat (first | (with_reducible first | exact HB.out | apply below_alloc | apply pw_below_drewN | apply below_drew1) | exact HB.out)) hb); clear HO_27; clear HB; have HO_27 := n0_; have HB := n1_; clear n0_ n1_; (try clear hb); (try clear hb2); (try clear hk); (try clear hi)))
                        go_ret2
                        exact ⟨by first | rfl | (simp [errW_none, errW_some] <;> rfl) | (simp [*, errW_none, errW_some] <;> rfl), by repeat (first | (with_reducible first | exact HB.out | apply below_alloc | apply pw_below_drewN | apply below_drew1) | exact HB.out)⟩
                      · rw [if_neg c26] at H
                        exact absurd H (by simp)
                    · rw [if_neg c25] at H
                      exact absurd H (by simp)
                  · rw [if_neg c23] at H
                    have c23b0 : decide (0 < t136) = false := decide_eq_false c23
                    clear c23
                    have H' := Aside0.mk H
                    clear H
                    have p133 : 0 ≤ (x29_2 : Int) := of_decide_eq_true (by first | (with_reducible assumption) | assumption)
                    have q133 : x29_2 < (y129.length : Int) := of_decide_eq_true (by first | (with_reducible assumption) | assumption)
                    obtain ⟨ad133, e133, hx133_0⟩ := Kd.at_string (Kd.R_reads' HO_27.out).2.2 x29_2 p133 q133
                    cases e133
                    replace p133 := eq_true p133
                    replace q133 := eq_true q133
                    go_wp2_with (first | ((with_reducible refine gate_callee (f := 22) rfl ?_); refine goesL_ (some 36) rfl rfl Tryd.func22 (by kernel_rfl) rfl #[.string a0, .string (rdOf ByteArray.empty y129 x29_2)] rfl (by (try simp only [List.map_toArray, List.map_cons, List.map_nil]); first | done | rfl | (simp only [List.length_drop, List.length_take]; rfl)) ?_; (with_reducible refine (strings_CutPrefix.calls a0 (rdOf ByteArray.empty y129 x29_2) t134 true _ A20.out).mono ?_); rintro e w' ⟨rfl, ⟨nd, rfl⟩⟩; refine ⟨_, rfl, ?_⟩) | ((with_reducible refine gate_callee (f := 20) rfl ?_); refine goesL_ (some 42) rfl rfl Tryd.func20 (by kernel_rfl) rfl #[.string t134] rfl (by (try simp only [List.map_toArray, List.map_cons, List.map_nil]); first | done | rfl | (simp only [List.length_drop, List.length_take]; rfl)) ?_; (with_reducible refine (auto_host.calls k2 t134 t136 _ ?side1 A22.out).mono ?_); (case side1 => exact Laid.go hLd (by repeat (first | (with_reducible first | exact HB.out | apply below_alloc | apply pw_below_drewN | apply below_drew1) | exact HB.out))); rintro e w29 ⟨rfl, hb⟩; refine ⟨_, rfl, ?_⟩; have n0_ := Aside0.mk (Kd.R_below (by (with_reducible repeat (first | apply Kd.R_alloc | apply Kd.R_drewN | apply Kd.R_drew)); exact HO_27.out) hb); have n1_ := Aside0.mk (below_step (by repeat (first | (with_reducible first | exact HB.out | apply below_alloc | apply pw_below_drewN | apply below_drew1) | exact HB.out)) hb); clear HO_27; clear HB; have HO_27 := n0_; have HB := n1_; clear n0_ n1_; (try clear hb); (try clear hb2); (try clear hk); (try clear hi)))
                    go_roundg k2
                    case measure => have := HJ2.out; have := HK2.out; omega
                    case rel => exact ⟨(wrap64 (x29_2 + 1)), (by first | rfl | (simp; done) | (simp [*]; done)), H', ⟨by have := HJ2.out; have := HK2.out; omega⟩, ⟨by (with_reducible repeat (first | apply Kd.R_alloc | apply Kd.R_drewN | apply Kd.R_drew)); exact HO_27.out⟩, ⟨by repeat (first | (with_reducible first | exact HB.out | apply below_alloc | apply pw_below_drewN | apply below_drew1) | exact HB.out)⟩⟩
                · replace c21 := Bool.eq_false_iff.mpr c21
                  subst c21
                  have H1 : (auto_one.l0 k2 a0 y129 (y129.length : Int) (wrap64 (x29_2 + 1))) = some (r1, r2) := by rw [if_neg (show ¬ (false = true) by decide)] at H; exact H
                  clear H
                  have H := H1
                  clear H1
                  have H' := Aside0.mk H
                  clear H
                  have p133 : 0 ≤ (x29_2 : Int) := of_decide_eq_true (by first | (with_reducible assumption) | assumption)
                  have q133 : x29_2 < (y129.length : Int) := of_decide_eq_true (by first | (with_reducible assumption) | assumption)
                  obtain ⟨ad133, e133, hx133_0⟩ := Kd.at_string (Kd.R_reads' HO_27.out).2.2 x29_2 p133 q133
                  cases e133
                  replace p133 := eq_true p133
                  replace q133 := eq_true q133
                  go_wp2_with (first | ((with_reducible refine gate_callee (f := 22) rfl ?_); refine goesL_ (some 36) rfl rfl Tryd.func22 (by kernel_rfl) rfl #[.string a0, .string (rdOf ByteArray.empty y129 x29_2)] rfl (by (try simp only [List.map_toArray, List.map_cons, List.map_nil]); first | done | rfl | (simp only [List.length_drop, List.length_take]; rfl)) ?_; (with_reducible refine (strings_CutPrefix.calls a0 (rdOf ByteArray.empty y129 x29_2) t134 false _ A20.out).mono ?_); rintro e w' ⟨rfl, ⟨nd, rfl⟩⟩; refine ⟨_, rfl, ?_⟩))
                  go_roundg k2
                  case measure => have := HJ2.out; have := HK2.out; omega
                  case rel => exact ⟨(wrap64 (x29_2 + 1)), (by first | rfl | (simp; done) | (simp [*]; done)), H', ⟨by have := HJ2.out; have := HK2.out; omega⟩, ⟨by (with_reducible repeat (first | apply Kd.R_alloc | apply Kd.R_drewN | apply Kd.R_drew)); exact HO_27.out⟩, ⟨by repeat (first | (with_reducible first | exact HB.out | apply below_alloc | apply pw_below_drewN | apply below_drew1) | exact HB.out)⟩⟩
              · rw [if_neg c19] at H
                exact absurd H (by simp)
            · rw [if_neg c18] at H
              exact absurd H (by simp)
          · rw [if_neg c17] at H
            have c17b0 : decide (x29_2 < (y129.length : Int)) = false := decide_eq_false c17
            clear c17
            replace H := Option.bind_eq_some_iff.mp H
            obtain ⟨t132, A300, H⟩ := H
            replace H : (if t132 = 0 then (some ((⟨#[]⟩ : ByteArray), 0)) else (if 0 ≤ t132 then (if t132 ≤ (a0.size : Int) then (if 7 + (a0.extract 0 (t132 : Int).toNat).size ≤ 9223372036854775807 then (some ((⟨#[109, 97, 105, 108, 116, 111, 58]⟩ : ByteArray) ++ (a0.extract 0 (t132 : Int).toNat), t132)) else (none)) else (none)) else (none))) = some (r1, r2) := H
            have A30 := Aside0.mk A300
            clear A300
            by_cases c31 : t132 = 0
            · rw [if_pos c31] at H
              have c31b0 : (t132 == 0) = true := beq_iff_eq.mpr c31
              have c31b1 : (t132 != 0) = false := bne_eq_false_iff_eq.mpr c31
              clear c31
              simp only [Option.some.injEq, Prod.mk.injEq] at H
              obtain ⟨rfl, rfl⟩ := H
              go_wp2_with (first | ((with_reducible refine gate_callee (f := 23) rfl ?_); refine goesL_ (some 57) rfl rfl Tryd.func23 (by kernel_rfl) rfl #[.string a0] rfl (by (try simp only [List.map_toArray, List.map_cons, List.map_nil]); first | done | rfl | (simp only [List.length_drop, List.length_take]; rfl)) ?_; (with_reducible refine (auto_mailbox.calls k2 a0 t132 _ ?side1 A30.out).mono ?_); (case side1 => exact Laid.go hLd (by repeat (first | (with_reducible first | exact HB.out | apply below_alloc | apply pw_below_drewN | apply below_drew1) | exact HB.out))); rintro e w32 ⟨rfl, hb⟩; refine ⟨_, rfl, ?_⟩; have n0_ := Aside0.mk (Kd.R_below (by (with_reducible repeat (first | apply Kd.R_alloc | apply Kd.R_drewN | apply Kd.R_drew)); exact HO_27.out) hb); have n1_ := Aside0.mk (below_step (by repeat (first | (with_reducible first | exact HB.out | apply below_alloc | apply pw_below_drewN | apply below_drew1) | exact HB.out)) hb); clear HO_27; clear HB; have HO_27 := n0_; have HB := n1_; clear n0_ n1_; (try clear hb); (try clear hb2); (try clear hk); (try clear hi)))
              go_ret2
              exact ⟨by first | rfl | (simp [errW_none, errW_some] <;> rfl) | (simp [*, errW_none, errW_some] <;> rfl), by repeat (first | (with_reducible first | exact HB.out | apply below_alloc | apply pw_below_drewN | apply below_drew1) | exact HB.out)⟩
            · rw [if_neg c31] at H
              have c31b0 : (t132 == 0) = false := beq_eq_false_iff_ne.mpr c31
              have c31b1 : (t132 != 0) = true := bne_iff_ne.mpr c31
              by_cases c33 : 0 ≤ t132
              · rw [if_pos c33] at H
                have c33b0 := eq_true c33
                have c33b1 : decide (0 ≤ t132) = true := decide_eq_true c33
                clear c33
                by_cases c34 : t132 ≤ (a0.size : Int)
                · rw [if_pos c34] at H
                  have c34b0 := eq_true c34
                  have c34b1 : decide (t132 ≤ (a0.size : Int)) = true := decide_eq_true c34
                  clear c34
                  by_cases c35 : 7 + (a0.extract 0 (t132 : Int).toNat).size ≤ 9223372036854775807
                  · rw [if_pos c35] at H
                    have c35b0 := eq_true c35
                    have c35b1 : decide (7 + (a0.extract 0 (t132 : Int).toNat).size ≤ 9223372036854775807) = true := decide_eq_true c35
                    have c35b4 := c35
                    (try simp only [ByteArray.size_append, ByteArray.size_extract, Nat.min_self] at c35b4)
                    (try have c35b5 := Nat.not_lt.2 c35b4)
                    (try have c35b7 : ¬ 9223372036854775807 < 7 + (a0.extract 0 (t132 : Int).toNat).size := by have hh := c35; simp only [ByteArray.size_append] at hh; exact Nat.not_lt.2 hh)
                    (try have c35b9 : ¬ 9223372036854775807 < 7 + min (t132 : Int).toNat a0.size := by have hh := c35; simp only [ByteArray.size_append, ByteArray.size_extract, Nat.min_self] at hh; first | exact Nat.not_lt.2 hh | (have hh2 := hh; simp only [ByteArray.size] at hh2 ⊢; omega))
                    (try have c35b6 : ¬ 9223372036854775807 < 7 + (t132 : Int).toNat := by have hh := c35; (try simp only [decide_eq_true_eq] at *); simp only [ByteArray.size_extract] at hh; omega)
                    try have c35b2 : (9223372036854775807 < 7 + (a0.extract 0 (t132 : Int).toNat).size) = False := eq_false (Nat.not_lt.2 c35)
                    simp only [Option.some.injEq, Prod.mk.injEq] at H
                    obtain ⟨rfl, rfl⟩ := H
                    go_wp2_with (first | ((with_reducible refine gate_callee (f := 23) rfl ?_); refine goesL_ (some 57) rfl rfl Tryd.func23 (by kernel_rfl) rfl #[.string a0] rfl (by (try simp only [List.map_toArray, List.map_cons, List.map_nil]); first | done | rfl | (simp only [List.length_drop, List.length_take]; rfl)) ?_; (with_reducible refine (auto_mailbox.calls k2 a0 t132 _ ?side1 A30.out).mono ?_); (case side1 => exact Laid.go hLd (by repeat (first | (with_reducible first | exact HB.out | apply below_alloc | apply pw_below_drewN | apply below_drew1) | exact HB.out))); rintro e w36 ⟨rfl, hb⟩; refine ⟨_, rfl, ?_⟩; have n0_ := Aside0.mk (Kd.R_below (by (with_reducible repeat (first | apply Kd.R_alloc | apply Kd.R_drewN | apply Kd.R_drew)); exact HO_27.out) hb); have n1_ := Aside0.mk (below_step (by repeat (first | (with_reducible first | exact HB.out | apply below_alloc | apply pw_below_drewN | apply below_drew1) | exact HB.out)) hb); clear HO_27; clear HB; have HO_27 := n0_; have HB := n1_; clear n0_ n1_; (try clear hb); (try clear hb2); (try clear hk); (try clear hi)))
                    go_ret2
                    exact ⟨by first | rfl | (simp [errW_none, errW_some] <;> rfl) | (simp [*, errW_none, errW_some] <;> rfl), by repeat (first | (with_reducible first | exact HB.out | apply below_alloc | apply pw_below_drewN | apply below_drew1) | exact HB.out)⟩
                  · rw [if_neg c35] at H
                    exact absurd H (by simp)
                · rw [if_neg c34] at H
                  exact absurd H (by simp)
              · rw [if_neg c33] at H
                exact absurd H (by simp)

end Go.Proofs.YtddmddlaamcpiaaDoor.PA

namespace Go.Proofs.YtddmddlaamcpiaaDoor.PA
open Go.RowKit Go.Proofs.YtddmddlaamcpiaaDoorW.PrintWords Go.Proofs.YtddmddlaamcpiaaDoorW.PrintLast Go.Proofs.YtddmddlaamcpiaaDoorW.PrintMore
attribute [local go_sem] max2_int min2_int max_two min_two max_three min_three max_four min_four   -- for this text's walks alone
set_option linter.unusedVariables false
set_option linter.unusedSimpArgs false

/-! ### auto_Find: function 9 -/
mutual
def auto_Find.l0 : Nat → ByteArray → List (S26) → Int → Option ((List (S26)))
  | 0, _, _, _ => none
  | k + 1, x0, x3, x4 => if x4 < (x0.size : Int) then (if x4 > 0 then (if 0 ≤ (wrap64 (x4 - 1)) then (if (wrap64 (x4 - 1)) < (x0.size : Int) then ((strings_IndexByte.f (⟨#[32, 9, 10, 42, 95, 126, 40]⟩ : ByteArray) (bt x0 (wrap64 (x4 - 1)))).bind fun t138 => (auto_Find.j1 k x0 x3 x4 (decide (t138 < 0)))) else (none)) else (none)) else (auto_Find.j1 k x0 x3 x4 false)) else (some x3)
def auto_Find.j1 : Nat → ByteArray → List (S26) → Int → Bool → Option ((List (S26)))
  | 0, _, _, _, _ => none
  | k + 1, x0, x3, x4, x20 => if x20 = true then (auto_Find.l0 k x0 x3 (wrap64 (x4 + 1))) else (if 0 ≤ x4 then (if x4 ≤ (x0.size : Int) then ((auto_one.f k (x0.extract (x4 : Int).toNat x0.size)).bind fun bt139 => (if bt139.2 = 0 then (auto_Find.l0 k x0 x3 (wrap64 (x4 + 1))) else (if x3.length < 4398046511104 then (auto_Find.l0 k x0 (x3 ++ [(⟨x4, wrap64 (x4 + bt139.2), bt139.1⟩ : S26)]) (wrap64 (x4 + bt139.2))) else (none)))) else (none)) else (none))
end
def auto_Find.f (k : Nat) (a0 : ByteArray) : Option ((List (S26))) := auto_Find.l0 k a0 ([] : List (S26)) 0
theorem auto_Find.mono_l : ∀ k, (∀ y0 y1 y2, LeO (auto_Find.l0 k y0 y1 y2) (auto_Find.l0 (k + 1) y0 y1 y2)) ∧ (∀ y0 y1 y2 y3, LeO (auto_Find.j1 k y0 y1 y2 y3) (auto_Find.j1 (k + 1) y0 y1 y2 y3))
  | 0 => ⟨fun _ _ _ r h => by simp [auto_Find.l0] at h, fun _ _ _ _ r h => by simp [auto_Find.j1] at h⟩
  | k + 1 => by
    obtain ⟨ih0, ih1⟩ := auto_Find.mono_l k
    refine ⟨?_, ?_⟩
    · intro y0 y1 y2
      unfold auto_Find.l0
      repeat' first
      | (with_reducible exact ih0 _ _ _)
      | (with_reducible exact ih1 _ _ _ _)
      | (with_reducible exact auto_one.mono _ _)
      | (with_reducible exact LeO.refl _)
      | (with_reducible exact LeO.none _)
      | (with_reducible refine LeO.ite ?_ ?_)
      | (with_reducible refine LeO.bind ?_ (fun _ => ?_))
      | exact ih0 _ _ _
      | exact ih1 _ _ _ _
      | exact auto_one.mono _ _
      | exact LeO.none _
      | refine LeO.ite ?_ ?_
      | refine LeO.bind ?_ (fun _ => ?_)
    · intro y0 y1 y2 y3
      unfold auto_Find.j1
      repeat' first
      | (with_reducible exact ih0 _ _ _)
      | (with_reducible exact ih1 _ _ _ _)
      | (with_reducible exact auto_one.mono _ _)
      | (with_reducible exact LeO.refl _)
      | (with_reducible exact LeO.none _)
      | (with_reducible refine LeO.ite ?_ ?_)
      | (with_reducible refine LeO.bind ?_ (fun _ => ?_))
      | exact ih0 _ _ _
      | exact ih1 _ _ _ _
      | exact auto_one.mono _ _
      | exact LeO.none _
      | refine LeO.ite ?_ ?_
      | refine LeO.bind ?_ (fun _ => ?_)
theorem auto_Find.mono : ∀ a0 k, LeO (auto_Find.f k a0) (auto_Find.f (k + 1) a0) := by
  intro a0 k
  obtain ⟨ih0, ih1⟩ := auto_Find.mono_l k
  unfold auto_Find.f
  repeat' first
      | (with_reducible exact ih0 _ _ _)
      | (with_reducible exact ih1 _ _ _ _)
      | (with_reducible exact auto_one.mono _ _)
      | (with_reducible exact LeO.refl _)
      | (with_reducible exact LeO.none _)
      | (with_reducible refine LeO.ite ?_ ?_)
      | (with_reducible refine LeO.bind ?_ (fun _ => ?_))
      | exact ih0 _ _ _
      | exact ih1 _ _ _ _
      | exact auto_one.mono _ _
      | exact LeO.none _
      | refine LeO.ite ?_ ?_
      | refine LeO.bind ?_ (fun _ => ?_)
set_option maxHeartbeats 8000000 in
set_option maxRecDepth 100000 in
theorem auto_Find.calls (k : Nat) (a0 : ByteArray) (r : List (S26)) (w : World) (hLd : Laid w) (h : auto_Find.f k a0 = some r) :
    Calls Tryd.prog 9 #[.string a0] w fun e w' => ∃ v0_ : Value, e = .returned (v0_) ∧ Kd.R k26 26 w' w.heap.size (fun _ => True) v0_ r ∧ Below w.heap.size w w' := by
  have hu26 := Tryd.underlying26
  have HB := Aside0.mk (Below.refl w.heap.size w)
  have H : (auto_Find.l0 k a0 ([] : List (S26)) 0) = some r := h
  clear h
  have H' := Aside0.mk H
  clear H
  go_enter Tryd.func9, Tryd.ntmps9
  go_wp2
  (try go_step3)
  (try go_wp2)
  (try go_step3)
  (try go_wp2)
  go_loopg [3, 4] k (fun kq v3 v4 w' => ∃ (x3_1 : List (S26)) (x4_1 : Int), v4 = .int .i64 x4_1 ∧ Aside0 (auto_Find.l0 kq a0 x3_1 x4_1 = some r) ∧ Aside0 (kq ≤ k) ∧ Aside0 (Kd.R k26 26 w' w.heap.size (fun _ => True) v3 x3_1) ∧ Aside0 (Below w.heap.size w w'))
  case atStart => exact ⟨(([] : List (S26))), (0), (by first | rfl | (simp; done) | (simp [*]; done)), H', ⟨Nat.le_refl _⟩, ⟨by first | exact Kd.R_nil _ _ _ _ _ | exact Kd.N_nil _ _ _ _ _ | exact Kd.V_nil _ _ _ _ _ | exact Kd.Q_nil _ _ _ _ _ | exact Kd.S_nil _ _ _ _ _⟩, ⟨by repeat (first | (with_reducible first | exact HB.out | apply below_alloc | apply pw_below_drewN | apply below_drew1) | exact HB.out)⟩⟩
  case round =>
    clear H'
    obtain ⟨x3_1, x4_1, rfl, HA, HK1, HO_3, HB⟩ := hrel
    cases gk with
    | zero => exact absurd HA.out (by simp [auto_Find.l0])
    | succ k1 =>
      have H := HA.out
      clear HA
      simp only [auto_Find.l0] at H
      by_cases c2 : x4_1 < (a0.size : Int)
      · rw [if_pos c2] at H
        have c2b0 : decide (x4_1 < (a0.size : Int)) = true := decide_eq_true c2
        clear c2
        have HC3 := Aside0.mk H
        clear H
        go_upto_region 4 with (fail)
        go_cut [20] (fun v20 wc => ∃ (kq : Nat) (x20_2 : Bool), v20 = .bool x20_2 ∧ Aside0 (auto_Find.j1 kq a0 x3_1 x4_1 x20_2 = some r) ∧ Aside0 (kq ≤ k1) ∧ Aside0 (Kd.R k26 26 wc w.heap.size (fun _ => True) u3 x3_1) ∧ Aside0 (Below w.heap.size w wc))
        case first =>
          have H := HC3.out
          clear HC3
          by_cases c4 : x4_1 > 0
          · rw [if_pos c4] at H
            have c4b0 : decide (0 < x4_1) = true := decide_eq_true c4
            clear c4
            (first | rw [c4b0] | (simp only [i64_w, i32_w]; rw [c4b0]) | skip)
            obtain ⟨ji5, hji5⟩ : ∃ j_ : Int, (wrap64 (x4_1 - 1)) = j_ := ⟨_, rfl⟩
            replace H : (if 0 ≤ (ji5) then (if (ji5) < (a0.size : Int) then ((strings_IndexByte.f (⟨#[32, 9, 10, 42, 95, 126, 40]⟩ : ByteArray) (bt a0 (ji5))).bind fun t138 => (auto_Find.j1 k1 a0 x3_1 x4_1 (decide (t138 < 0)))) else (none)) else (none)) = some r := by first | (rw [hji5] at H; exact H) | (simp only [hji5] at H ⊢; exact H)
            have hji5w : (IntKind.i64.wrap (x4_1 - 1)) = ji5 := (i64_w _).trans hji5
            by_cases c6 : 0 ≤ (ji5)
            · rw [if_pos c6] at H
              have c6b0 : decide (0 ≤ (ji5)) = true := decide_eq_true c6
              clear c6
              by_cases c7 : (ji5) < (a0.size : Int)
              · rw [if_pos c7] at H
                have c7b0 : decide ((ji5) < (a0.size : Int)) = true := decide_eq_true c7
                clear c7
                replace H := Option.bind_eq_some_iff.mp H
                obtain ⟨t138, A90, H⟩ := H
                replace H : (auto_Find.j1 k1 a0 x3_1 x4_1 (decide (t138 < 0))) = some r := H
                have A9 := Aside0.mk A90
                clear A90
                have H' := Aside0.mk H
                clear H
                have p8 : 0 ≤ ((ji5) : Int) := of_decide_eq_true (by first | (with_reducible assumption) | assumption)
                have q8 : (ji5) < (a0.size : Int) := of_decide_eq_true (by first | (with_reducible assumption) | assumption)
                have hx8 := bt_at a0 (ji5)
                replace p8 := eq_true p8
                replace q8 := eq_true q8
                go_wp2_with (first | (go_at_call 13; (with_reducible refine (strings_IndexByte.calls (⟨#[32, 9, 10, 42, 95, 126, 40]⟩ : ByteArray) (bt a0 (ji5)) t138 _ A9.out).mono ?_); rintro e w' ⟨rfl, ⟨nd, rfl⟩⟩))
                go_meet
                case rel => exact ⟨_, (decide (t138 < 0)), (by first | rfl | (simp; done) | (simp [*]; done)), H', ⟨by have := HK1.out; first | omega | exact Nat.le_refl _⟩, ⟨by (with_reducible repeat (first | apply Kd.R_alloc | apply Kd.R_drewN | apply Kd.R_drew)); exact HO_3.out⟩, ⟨by repeat (first | (with_reducible first | exact HB.out | apply below_alloc | apply pw_below_drewN | apply below_drew1) | exact HB.out)⟩⟩
              · rw [if_neg c7] at H
                exact absurd H (by simp)
            · rw [if_neg c6] at H
              exact absurd H (by simp)
          · rw [if_neg c4] at H
            have c4b0 : decide (0 < x4_1) = false := decide_eq_false c4
            clear c4
            (first | rw [c4b0] | (simp only [i64_w, i32_w]; rw [c4b0]) | skip)
            have H' := Aside0.mk H
            clear H
            go_wp2
            go_meet
            case rel => exact ⟨_, (false), (by first | rfl | (simp; done) | (simp [*]; done)), H', ⟨by have := HK1.out; first | omega | exact Nat.le_refl _⟩, ⟨by (with_reducible repeat (first | apply Kd.R_alloc | apply Kd.R_drewN | apply Kd.R_drew)); exact HO_3.out⟩, ⟨by repeat (first | (with_reducible first | exact HB.out | apply below_alloc | apply pw_below_drewN | apply below_drew1) | exact HB.out)⟩⟩
        case rest =>
          clear HC3
          try clear c2
          try clear c2b0
          try clear p2
          try clear c4
          try clear c4b0
          try clear c6
          try clear c6b0
          try clear p6
          try clear c7
          try clear c7b0
          try clear p8
          try clear q8
          try clear hx8
          try clear c9
          try clear p8
          try clear q8
          obtain ⟨kq, x20_2, rfl, HA, HJ2, HO_3, HB⟩ := hcut
          cases kq with
          | zero => exact absurd HA.out (by simp [auto_Find.j1])
          | succ kj2 =>
            have H := HA.out
            clear HA
            simp only [auto_Find.j1] at H
            by_cases c10 : x20_2 = true
            · subst c10
              have H1 : (auto_Find.l0 kj2 a0 x3_1 (wrap64 (x4_1 + 1))) = some r := by rw [if_pos rfl] at H; exact H
              clear H
              have H := H1
              clear H1
              have H' := Aside0.mk H
              clear H
              go_wp2
              go_roundg kj2
              case measure => have := HK1.out; have := HJ2.out; omega
              case rel => exact ⟨(x3_1), (wrap64 (x4_1 + 1)), (by first | rfl | (simp; done) | (simp [*]; done)), H', ⟨by have := HK1.out; have := HJ2.out; omega⟩, ⟨by (with_reducible repeat (first | apply Kd.R_alloc | apply Kd.R_drewN | apply Kd.R_drew)); exact HO_3.out⟩, ⟨by repeat (first | (with_reducible first | exact HB.out | apply below_alloc | apply pw_below_drewN | apply below_drew1) | exact HB.out)⟩⟩
            · replace c10 := Bool.eq_false_iff.mpr c10
              subst c10
              have H1 : (if 0 ≤ x4_1 then (if x4_1 ≤ (a0.size : Int) then ((auto_one.f kj2 (a0.extract (x4_1 : Int).toNat a0.size)).bind fun bt139 => (if bt139.2 = 0 then (auto_Find.l0 kj2 a0 x3_1 (wrap64 (x4_1 + 1))) else (if x3_1.length < 4398046511104 then (auto_Find.l0 kj2 a0 (x3_1 ++ [(⟨x4_1, wrap64 (x4_1 + bt139.2), bt139.1⟩ : S26)]) (wrap64 (x4_1 + bt139.2))) else (none)))) else (none)) else (none)) = some r := by rw [if_neg (show ¬ (false = true) by decide)] at H; exact H
              clear H
              have H := H1
              clear H1
              by_cases c11 : 0 ≤ x4_1
              · rw [if_pos c11] at H
                have c11b0 := eq_true c11
                have c11b1 : decide (0 ≤ x4_1) = true := decide_eq_true c11
                clear c11
                by_cases c12 : x4_1 ≤ (a0.size : Int)
                · rw [if_pos c12] at H
                  have c12b0 := eq_true c12
                  have c12b1 : decide (x4_1 ≤ (a0.size : Int)) = true := decide_eq_true c12
                  clear c12
                  replace H := Option.bind_eq_some_iff.mp H
                  obtain ⟨⟨t139, t140⟩, A130, H⟩ := H
                  replace H : (if t140 = 0 then (auto_Find.l0 kj2 a0 x3_1 (wrap64 (x4_1 + 1))) else (if x3_1.length < 4398046511104 then (auto_Find.l0 kj2 a0 (x3_1 ++ [(⟨x4_1, wrap64 (x4_1 + t140), t139⟩ : S26)]) (wrap64 (x4_1 + t140))) else (none))) = some r := H
                  have A13 := Aside0.mk A130
                  clear A130
                  by_cases c14 : t140 = 0
                  · rw [if_pos c14] at H
                    have c14b0 : (t140 == 0) = true := beq_iff_eq.mpr c14
                    have c14b1 : (t140 != 0) = false := bne_eq_false_iff_eq.mpr c14
                    clear c14
                    have H' := Aside0.mk H
                    clear H
                    go_wp2_with (first | ((with_reducible refine gate_callee (f := 14) rfl ?_); refine goesL_ (some 27) rfl rfl Tryd.func14 (by kernel_rfl) rfl #[.string (a0.extract (x4_1 : Int).toNat a0.size)] rfl (by (try simp only [List.map_toArray, List.map_cons, List.map_nil]); first | done | rfl | (simp only [List.length_drop, List.length_take]; rfl)) ?_; (with_reducible refine (auto_one.calls kj2 (a0.extract (x4_1 : Int).toNat a0.size) t139 t140 _ ?side1 A13.out).mono ?_); (case side1 => exact Laid.go hLd (by repeat (first | (with_reducible first | exact HB.out | apply below_alloc | apply pw_below_drewN | apply below_drew1) | exact HB.out))); rintro e w15 ⟨rfl, hb⟩; refine ⟨_, rfl, ?_⟩; have n0_ := Aside0.mk (Kd.R_below (by (with_reducible repeat (first | apply Kd.R_alloc | apply Kd.R_drewN | apply Kd.R_drew)); exact HO_3.out) hb); have n1_ := Aside0.mk (below_step (by repeat (first | (with_reducible first | exact HB.out | apply below_alloc | apply pw_below_drewN | apply below_drew1) | exact HB.out)) hb); clear HO_3; clear HB; have HO_3 := n0_; have HB := n1_; clear n0_ n1_; (try clear hb); (try clear hb2); (try clear hk); (try clear hi)))
                    go_roundg kj2
                    case measure => have := HK1.out; have := HJ2.out; omega
                    case rel => exact ⟨(x3_1), (wrap64 (x4_1 + 1)), (by first | rfl | (simp; done) | (simp [*]; done)), H', ⟨by have := HK1.out; have := HJ2.out; omega⟩, ⟨by (with_reducible repeat (first | apply Kd.R_alloc | apply Kd.R_drewN | apply Kd.R_drew)); exact HO_3.out⟩, ⟨by repeat (first | (with_reducible first | exact HB.out | apply below_alloc | apply pw_below_drewN | apply below_drew1) | exact HB.out)⟩⟩
                  · rw [if_neg c14] at H
                    have c14b0 : (t140 == 0) = false := beq_eq_false_iff_ne.mpr c14
                    have c14b1 : (t140 != 0) = true := bne_iff_ne.mpr c14
                    by_cases c16 : x3_1.length < 4398046511104
                    · rw [if_pos c16] at H
                      have LMc16 := Aside0.mk c16
                      clear c16
                      obtain ⟨y141, hy141⟩ : ∃ y_ : List (S26), y_ = (x3_1 ++ [(⟨x4_1, wrap64 (x4_1 + t140), t139⟩ : S26)]) := ⟨_, rfl⟩
                      replace H : (auto_Find.l0 kj2 a0 y141 (wrap64 (x4_1 + t140))) = some r := by first | (rw [hy141]; with_reducible exact H) | (have H2_ := (Option.bind_some _ _).symm.trans H; rw [hy141]; with_reducible exact H2_) | (have H2_ := (Option.bind_some _ _).symm.trans H; with_reducible exact H2_) | with_reducible exact H | (rw [hy141]; exact H) | exact H
                      have Ny141 := Aside0.mk hy141
                      clear hy141
                      have H' := Aside0.mk H
                      clear H
                      go_wp2_with (first | ((with_reducible refine gate_callee (f := 14) rfl ?_); refine goesL_ (some 27) rfl rfl Tryd.func14 (by kernel_rfl) rfl #[.string (a0.extract (x4_1 : Int).toNat a0.size)] rfl (by (try simp only [List.map_toArray, List.map_cons, List.map_nil]); first | done | rfl | (simp only [List.length_drop, List.length_take]; rfl)) ?_; (with_reducible refine (auto_one.calls kj2 (a0.extract (x4_1 : Int).toNat a0.size) t139 t140 _ ?side1 A13.out).mono ?_); (case side1 => exact Laid.go hLd (by repeat (first | (with_reducible first | exact HB.out | apply below_alloc | apply pw_below_drewN | apply below_drew1) | exact HB.out))); rintro e w17 ⟨rfl, hb⟩; refine ⟨_, rfl, ?_⟩; have n0_ := Aside0.mk (Kd.R_below (by (with_reducible repeat (first | apply Kd.R_alloc | apply Kd.R_drewN | apply Kd.R_drew)); exact HO_3.out) hb); have n1_ := Aside0.mk (below_step (by repeat (first | (with_reducible first | exact HB.out | apply below_alloc | apply pw_below_drewN | apply below_drew1) | exact HB.out)) hb); clear HO_3; clear HB; have HO_3 := n0_; have HB := n1_; clear n0_ n1_; (try clear hb); (try clear hb2); (try clear hk); (try clear hi)) | ((with_reducible refine gate_builtin (b := .append) (xs := #[.tmp 34, .tmp 41]) rfl ?_); at_builtin; refine Kd.R_append k26 (w0 := w) w.heap.size rfl (.tmp 34) (.tmp 41) 23 26 (.agg #[(.int .i64 0), (.int .i64 0), (.string ⟨#[]⟩)]) 32 rfl Tryd.underlying23 info26 rfl (by decide) (by omega) u3 x3_1 (⟨x4_1, wrap64 (x4_1 + t140), t139⟩ : S26) [.int .i64 x4_1, .int .i64 (wrap64 (x4_1 + t140)), .string t139] (fun _ => True) (fun _ => False) rfl rfl ?aP (fun _ hk => hk.elim) ?aF ?aO ?aB ?aS ?aL ?_; (case aP => exact k26_mkM _ _ _ (⟨x4_1, wrap64 (x4_1 + t140), t139⟩ : S26)); (case aB => exact (by repeat (first | (with_reducible first | exact HB.out | apply below_alloc | apply pw_below_drewN | apply below_drew1) | exact HB.out))); (case aF => exact (fun _ _ => trivial)); (case aO => exact (by (with_reducible repeat (first | apply Kd.R_alloc | apply Kd.R_drewN | apply Kd.R_drew)); exact HO_3.out)); (case aS => exact (below_size (by repeat (first | (with_reducible first | exact HB.out | apply below_alloc | apply pw_below_drewN | apply below_drew1) | exact HB.out)))); (case aL => have := LMc16.out; omega); intro v142 w18 ho hb hg hat; rw [← Ny141.out] at ho; have n0_ := Aside0.mk (hb); have n1_ := Aside0.mk (ho); clear HB; clear HO_3; have HB := n0_; have HO143 := n1_; clear n0_ n1_; clear ho hb hg hat))
                      go_roundg kj2
                      case measure => have := HK1.out; have := HJ2.out; omega
                      case rel => exact ⟨(y141), (wrap64 (x4_1 + t140)), (by first | rfl | (simp; done) | (simp [*]; done)), H', ⟨by have := HK1.out; have := HJ2.out; omega⟩, ⟨by (with_reducible repeat (first | apply Kd.R_alloc | apply Kd.R_drewN | apply Kd.R_drew)); exact HO143.out⟩, ⟨by repeat (first | (with_reducible first | exact HB.out | apply below_alloc | apply pw_below_drewN | apply below_drew1) | exact HB.out)⟩⟩
                    · rw [if_neg c16] at H
                      exact absurd H (by simp)
                · rw [if_neg c12] at H
                  exact absurd H (by simp)
              · rw [if_neg c11] at H
                exact absurd H (by simp)
      · rw [if_neg c2] at H
        have c2b0 : decide (x4_1 < (a0.size : Int)) = false := decide_eq_false c2
        clear c2
        obtain rfl := Option.some.inj H
        go_wp2
        repeat (first | refine ex_noGoto_ret ?_ | refine ex_block_ret ?_ | refine ex_then_ret ?_)
        go_ret
        exact ⟨_, by first | rfl | (simp [errW_none, errW_some] <;> rfl) | (simp [*, errW_none, errW_some] <;> rfl), by (with_reducible repeat (first | apply Kd.R_alloc | apply Kd.R_drewN | apply Kd.R_drew)); exact HO_3.out, by repeat (first | (with_reducible first | exact HB.out | apply below_alloc | apply pw_below_drewN | apply below_drew1) | exact HB.out)⟩

/-! ### incipitlaw17_awake: function 8 -/
def incipitlaw17_awake.f (k : Nat)  : Option (Bool) := (auto_Find.f k (⟨#[115, 101, 101, 32, 119, 119, 119, 46, 97, 46, 98, 46]⟩ : ByteArray)).bind fun t144 => ((auto_Find.f k (⟨#[120, 64, 121, 46, 122]⟩ : ByteArray)).bind fun t147 => (if (t144.length : Int) = 1 then (if 0 < (t144.length : Int) then (if ((rd_T26 t144 0).f0) = 4 then (if ((rd_T26 t144 0).f1) = 11 then (if ((rd_T26 t144 0).f2).toList = ([104, 116, 116, 112, 58, 47, 47, 119, 119, 119, 46, 97, 46, 98] : List UInt8) then (if (t147.length : Int) = 1 then (if 0 < (t147.length : Int) then (some (((rd_T26 t147 0).f2).toList == ([109, 97, 105, 108, 116, 111, 58, 120, 64, 121, 46, 122] : List UInt8))) else (none)) else (some false)) else (some false)) else (some false)) else (some false)) else (none)) else (some false)))
theorem incipitlaw17_awake.mono : ∀ k, LeO (incipitlaw17_awake.f k ) (incipitlaw17_awake.f (k + 1) ) := by
  intro  k
  unfold incipitlaw17_awake.f
  repeat' first
      | (with_reducible exact auto_Find.mono _ _)
      | (with_reducible exact LeO.refl _)
      | (with_reducible exact LeO.none _)
      | (with_reducible refine LeO.ite ?_ ?_)
      | (with_reducible refine LeO.bind ?_ (fun _ => ?_))
      | exact auto_Find.mono _ _
      | exact LeO.none _
      | refine LeO.ite ?_ ?_
      | refine LeO.bind ?_ (fun _ => ?_)
set_option maxHeartbeats 8000000 in
set_option maxRecDepth 100000 in
theorem incipitlaw17_awake.calls (k : Nat)  (r : Bool) (w : World) (hLd : Laid w) (h : incipitlaw17_awake.f k  = some r) :
    Calls Tryd.prog 8 #[] w fun e w' => e = .returned (.bool r) ∧ Below w.heap.size w w' := by
  have HB := Aside0.mk (Below.refl w.heap.size w)
  have H : ((auto_Find.f k (⟨#[115, 101, 101, 32, 119, 119, 119, 46, 97, 46, 98, 46]⟩ : ByteArray)).bind fun t144 => ((auto_Find.f k (⟨#[120, 64, 121, 46, 122]⟩ : ByteArray)).bind fun t147 => (if (t144.length : Int) = 1 then (if 0 < (t144.length : Int) then (if ((rd_T26 t144 0).f0) = 4 then (if ((rd_T26 t144 0).f1) = 11 then (if ((rd_T26 t144 0).f2).toList = ([104, 116, 116, 112, 58, 47, 47, 119, 119, 119, 46, 97, 46, 98] : List UInt8) then (if (t147.length : Int) = 1 then (if 0 < (t147.length : Int) then (some (((rd_T26 t147 0).f2).toList == ([109, 97, 105, 108, 116, 111, 58, 120, 64, 121, 46, 122] : List UInt8))) else (none)) else (some false)) else (some false)) else (some false)) else (some false)) else (none)) else (some false)))) = some r := h
  clear h
  replace H := Option.bind_eq_some_iff.mp H
  obtain ⟨t144, A10, H⟩ := H
  replace H : ((auto_Find.f k (⟨#[120, 64, 121, 46, 122]⟩ : ByteArray)).bind fun t147 => (if (t144.length : Int) = 1 then (if 0 < (t144.length : Int) then (if ((rd_T26 t144 0).f0) = 4 then (if ((rd_T26 t144 0).f1) = 11 then (if ((rd_T26 t144 0).f2).toList = ([104, 116, 116, 112, 58, 47, 47, 119, 119, 119, 46, 97, 46, 98] : List UInt8) then (if (t147.length : Int) = 1 then (if 0 < (t147.length : Int) then (some (((rd_T26 t147 0).f2).toList == ([109, 97, 105, 108, 116, 111, 58, 120, 64, 121, 46, 122] : List UInt8))) else (none)) else (some false)) else (some false)) else (some false)) else (some false)) else (none)) else (some false))) = some r := H
  have A1 := Aside0.mk A10
  clear A10
  replace H := Option.bind_eq_some_iff.mp H
  obtain ⟨t147, A20, H⟩ := H
  replace H : (if (t144.length : Int) = 1 then (if 0 < (t144.length : Int) then (if ((rd_T26 t144 0).f0) = 4 then (if ((rd_T26 t144 0).f1) = 11 then (if ((rd_T26 t144 0).f2).toList = ([104, 116, 116, 112, 58, 47, 47, 119, 119, 119, 46, 97, 46, 98] : List UInt8) then (if (t147.length : Int) = 1 then (if 0 < (t147.length : Int) then (some (((rd_T26 t147 0).f2).toList == ([109, 97, 105, 108, 116, 111, 58, 120, 64, 121, 46, 122] : List UInt8))) else (none)) else (some false)) else (some false)) else (some false)) else (some false)) else (none)) else (some false)) = some r := H
  have A2 := Aside0.mk A20
  clear A20
  by_cases c3 : (t144.length : Int) = 1
  · rw [if_pos c3] at H
    have c3b0 : ((t144.length : Int) == 1) = true := beq_iff_eq.mpr c3
    have c3b1 : ((t144.length : Int) != 1) = false := bne_eq_false_iff_eq.mpr c3
    clear c3
    by_cases c4 : 0 < (t144.length : Int)
    · rw [if_pos c4] at H
      have c4b0 : decide (0 < (t144.length : Int)) = true := decide_eq_true c4
      have c4b1 : decide (0 < t144.length) = true := decide_eq_true (by omega)
      clear c4
      by_cases c5 : ((rd_T26 t144 0).f0) = 4
      · rw [if_pos c5] at H
        have c5b0 : (((rd_T26 t144 0).f0) == 4) = true := beq_iff_eq.mpr c5
        have c5b1 : (((rd_T26 t144 0).f0) != 4) = false := bne_eq_false_iff_eq.mpr c5
        clear c5
        by_cases c6 : ((rd_T26 t144 0).f1) = 11
        · rw [if_pos c6] at H
          have c6b0 : (((rd_T26 t144 0).f1) == 11) = true := beq_iff_eq.mpr c6
          have c6b1 : (((rd_T26 t144 0).f1) != 11) = false := bne_eq_false_iff_eq.mpr c6
          clear c6
          by_cases c7 : ((rd_T26 t144 0).f2).toList = ([104, 116, 116, 112, 58, 47, 47, 119, 119, 119, 46, 97, 46, 98] : List UInt8)
          · rw [if_pos c7] at H
            have c7b0 : (((rd_T26 t144 0).f2).toList == ([104, 116, 116, 112, 58, 47, 47, 119, 119, 119, 46, 97, 46, 98] : List UInt8)) = true := beq_iff_eq.mpr c7
            have c7b1 : (((rd_T26 t144 0).f2).toList != ([104, 116, 116, 112, 58, 47, 47, 119, 119, 119, 46, 97, 46, 98] : List UInt8)) = false := bne_eq_false_iff_eq.mpr c7
            clear c7
            by_cases c8 : (t147.length : Int) = 1
            · rw [if_pos c8] at H
              have c8b0 : ((t147.length : Int) == 1) = true := beq_iff_eq.mpr c8
              have c8b1 : ((t147.length : Int) != 1) = false := bne_eq_false_iff_eq.mpr c8
              clear c8
              by_cases c9 : 0 < (t147.length : Int)
              · rw [if_pos c9] at H
                have c9b0 : decide (0 < (t147.length : Int)) = true := decide_eq_true c9
                have c9b1 : decide (0 < t147.length) = true := decide_eq_true (by omega)
                clear c9
                obtain rfl := Option.some.inj H
                go_enter Tryd.func8, Tryd.ntmps8
                go_wp2_with (first | ((with_reducible refine gate_callee (f := 9) rfl ?_); refine goesL_ (some 3) rfl rfl Tryd.func9 (by kernel_rfl) rfl #[.string (⟨#[115, 101, 101, 32, 119, 119, 119, 46, 97, 46, 98, 46]⟩ : ByteArray)] rfl (by (try simp only [List.map_toArray, List.map_cons, List.map_nil]); first | done | rfl | (simp only [List.length_drop, List.length_take]; rfl)) ?_; (with_reducible refine (auto_Find.calls k (⟨#[115, 101, 101, 32, 119, 119, 119, 46, 97, 46, 98, 46]⟩ : ByteArray) t144 _ ?side1 A1.out).mono ?_); (case side1 => exact Laid.go hLd (by repeat (first | (with_reducible first | exact HB.out | apply below_alloc | apply pw_below_drewN | apply below_drew1) | exact HB.out))); rintro e w10 ⟨v145, rfl, ho0, hb⟩; refine ⟨_, rfl, ?_⟩; have n0_ := Aside0.mk (Kd.R_lower ho0 (below_size (by repeat (first | (with_reducible first | exact HB.out | apply below_alloc | apply pw_below_drewN | apply below_drew1) | exact HB.out)))); have n1_ := Aside0.mk (below_step (by repeat (first | (with_reducible first | exact HB.out | apply below_alloc | apply pw_below_drewN | apply below_drew1) | exact HB.out)) hb); clear HB; have HO146 := n0_; have HB := n1_; clear n0_ n1_; (try clear hb); (try clear hb2); (try clear hk); (try clear hi); (try clear ho0)) | ((with_reducible refine gate_callee (f := 9) rfl ?_); refine goesL_ (some 4) rfl rfl Tryd.func9 (by kernel_rfl) rfl #[.string (⟨#[120, 64, 121, 46, 122]⟩ : ByteArray)] rfl (by (try simp only [List.map_toArray, List.map_cons, List.map_nil]); first | done | rfl | (simp only [List.length_drop, List.length_take]; rfl)) ?_; (with_reducible refine (auto_Find.calls k (⟨#[120, 64, 121, 46, 122]⟩ : ByteArray) t147 _ ?side1 A2.out).mono ?_); (case side1 => exact Laid.go hLd (by repeat (first | (with_reducible first | exact HB.out | apply below_alloc | apply pw_below_drewN | apply below_drew1) | exact HB.out))); rintro e w11 ⟨v148, rfl, ho0, hb⟩; refine ⟨_, rfl, ?_⟩; have n0_ := Aside0.mk (Kd.R_elder' (by (with_reducible repeat (first | apply Kd.R_alloc | apply Kd.R_drewN | apply Kd.R_drew)); exact HO146.out) (Kd.R_base ho0) hb); have n1_ := Aside0.mk (Kd.R_lower (Kd.R_new' ho0 (Kd.R_lt (by (with_reducible repeat (first | apply Kd.R_alloc | apply Kd.R_drewN | apply Kd.R_drew)); exact HO146.out))) (below_size (by repeat (first | (with_reducible first | exact HB.out | apply below_alloc | apply pw_below_drewN | apply below_drew1) | exact HB.out)))); have n2_ := Aside0.mk (below_step (by repeat (first | (with_reducible first | exact HB.out | apply below_alloc | apply pw_below_drewN | apply below_drew1) | exact HB.out)) hb); clear HO146; clear HB; have HO146 := n0_; have HO149 := n1_; have HB := n2_; clear n0_ n1_ n2_; (try clear hb); (try clear hb2); (try clear hk); (try clear hi); (try clear ho0); obtain ⟨Ao12, co12, eo12⟩ := Kd.R_slice HO146.out; subst eo12; have p150 : 0 ≤ (0 : Int) := (by omega); have q150 : 0 < (t144.length : Int) := of_decide_eq_true (by first | (with_reducible assumption) | assumption); obtain ⟨ad150, e150, hx150_0, hx150_1, hx150_2⟩ := at_T26 (Kd.R_reads' HO146.out).2.2 0 p150 q150; cases e150; have qi150 : (0 < t144.length) = True := eq_true (by omega); (try rw [show ((0 : Int)).toNat = 0 from rfl] at hx150_0); (try rw [show 0 * 3 = 0 from rfl] at hx150_0); (try rw [Addr.add_zero'] at hx150_0); (try rw [show ((0 : Int)).toNat = 0 from rfl] at hx150_1); (try rw [show 0 * 3 = 0 from rfl] at hx150_1); (try rw [Addr.add_zero'] at hx150_1); (try rw [show ((0 : Int)).toNat = 0 from rfl] at hx150_2); (try rw [show 0 * 3 = 0 from rfl] at hx150_2); (try rw [Addr.add_zero'] at hx150_2); replace p150 := eq_true p150; replace q150 := eq_true q150; have p151 : 0 ≤ (0 : Int) := (by omega); have q151 : 0 < (t144.length : Int) := of_decide_eq_true (by first | (with_reducible assumption) | assumption); obtain ⟨ad151, e151, hx151_0, hx151_1, hx151_2⟩ := at_T26 (Kd.R_reads' HO146.out).2.2 0 p151 q151; obtain rfl : ad150 = ad151 := (by injection e151); have qi151 : (0 < t144.length) = True := eq_true (by omega); (try rw [show ((0 : Int)).toNat = 0 from rfl] at hx151_0); (try rw [show 0 * 3 = 0 from rfl] at hx151_0); (try rw [Addr.add_zero'] at hx151_0); (try rw [show ((0 : Int)).toNat = 0 from rfl] at hx151_1); (try rw [show 0 * 3 = 0 from rfl] at hx151_1); (try rw [Addr.add_zero'] at hx151_1); (try rw [show ((0 : Int)).toNat = 0 from rfl] at hx151_2); (try rw [show 0 * 3 = 0 from rfl] at hx151_2); (try rw [Addr.add_zero'] at hx151_2); replace p151 := eq_true p151; replace q151 := eq_true q151; have p152 : 0 ≤ (0 : Int) := (by omega); have q152 : 0 < (t144.length : Int) := of_decide_eq_true (by first | (with_reducible assumption) | assumption); obtain ⟨ad152, e152, hx152_0, hx152_1, hx152_2⟩ := at_T26 (Kd.R_reads' HO146.out).2.2 0 p152 q152; obtain rfl : ad150 = ad152 := (by injection e152); have qi152 : (0 < t144.length) = True := eq_true (by omega); (try rw [show ((0 : Int)).toNat = 0 from rfl] at hx152_0); (try rw [show 0 * 3 = 0 from rfl] at hx152_0); (try rw [Addr.add_zero'] at hx152_0); (try rw [show ((0 : Int)).toNat = 0 from rfl] at hx152_1); (try rw [show 0 * 3 = 0 from rfl] at hx152_1); (try rw [Addr.add_zero'] at hx152_1); (try rw [show ((0 : Int)).toNat = 0 from rfl] at hx152_2); (try rw [show 0 * 3 = 0 from rfl] at hx152_2); (try rw [Addr.add_zero'] at hx152_2); replace p152 := eq_true p152; replace q152 := eq_true q152; obtain ⟨Ao13, co13, eo13⟩ := Kd.R_slice HO149.out; subst eo13; have p153 : 0 ≤ (0 : Int) := (by omega); have q153 : 0 < (t147.length : Int) := of_decide_eq_true (by first | (with_reducible assumption) | assumption); obtain ⟨ad153, e153, hx153_0, hx153_1, hx153_2⟩ := at_T26 (Kd.R_reads' HO149.out).2.2 0 p153 q153; cases e153; have qi153 : (0 < t147.length) = True := eq_true (by omega); (try rw [show ((0 : Int)).toNat = 0 from rfl] at hx153_0); (try rw [show 0 * 3 = 0 from rfl] at hx153_0); (try rw [Addr.add_zero'] at hx153_0); (try rw [show ((0 : Int)).toNat = 0 from rfl] at hx153_1); (try rw [show 0 * 3 = 0 from rfl] at hx153_1); (try rw [Addr.add_zero'] at hx153_1); (try rw [show ((0 : Int)).toNat = 0 from rfl] at hx153_2); (try rw [show 0 * 3 = 0 from rfl] at hx153_2); (try rw [Addr.add_zero'] at hx153_2); replace p153 := eq_true p153; replace q153 := eq_true q153))
                go_ret
                exact ⟨by first | rfl | (simp [errW_none, errW_some] <;> rfl) | (simp [*, errW_none, errW_some] <;> rfl), by repeat (first | (with_reducible first | exact HB.out | apply below_alloc | apply pw_below_drewN | apply below_drew1) | exact HB.out)⟩
              · rw [if_neg c9] at H
                exact absurd H (by simp)
            · rw [if_neg c8] at H
              have c8b0 : ((t147.length : Int) == 1) = false := beq_eq_false_iff_ne.mpr c8
              have c8b1 : ((t147.length : Int) != 1) = true := bne_iff_ne.mpr c8
              obtain rfl := Option.some.inj H
              go_enter Tryd.func8, Tryd.ntmps8
              go_wp2_with (first | ((with_reducible refine gate_callee (f := 9) rfl ?_); refine goesL_ (some 3) rfl rfl Tryd.func9 (by kernel_rfl) rfl #[.string (⟨#[115, 101, 101, 32, 119, 119, 119, 46, 97, 46, 98, 46]⟩ : ByteArray)] rfl (by (try simp only [List.map_toArray, List.map_cons, List.map_nil]); first | done | rfl | (simp only [List.length_drop, List.length_take]; rfl)) ?_; (with_reducible refine (auto_Find.calls k (⟨#[115, 101, 101, 32, 119, 119, 119, 46, 97, 46, 98, 46]⟩ : ByteArray) t144 _ ?side1 A1.out).mono ?_); (case side1 => exact Laid.go hLd (by repeat (first | (with_reducible first | exact HB.out | apply below_alloc | apply pw_below_drewN | apply below_drew1) | exact HB.out))); rintro e w14 ⟨v145, rfl, ho0, hb⟩; refine ⟨_, rfl, ?_⟩; have n0_ := Aside0.mk (Kd.R_lower ho0 (below_size (by repeat (first | (with_reducible first | exact HB.out | apply below_alloc | apply pw_below_drewN | apply below_drew1) | exact HB.out)))); have n1_ := Aside0.mk (below_step (by repeat (first | (with_reducible first | exact HB.out | apply below_alloc | apply pw_below_drewN | apply below_drew1) | exact HB.out)) hb); clear HB; have HO146 := n0_; have HB := n1_; clear n0_ n1_; (try clear hb); (try clear hb2); (try clear hk); (try clear hi); (try clear ho0)) | ((with_reducible refine gate_callee (f := 9) rfl ?_); refine goesL_ (some 4) rfl rfl Tryd.func9 (by kernel_rfl) rfl #[.string (⟨#[120, 64, 121, 46, 122]⟩ : ByteArray)] rfl (by (try simp only [List.map_toArray, List.map_cons, List.map_nil]); first | done | rfl | (simp only [List.length_drop, List.length_take]; rfl)) ?_; (with_reducible refine (auto_Find.calls k (⟨#[120, 64, 121, 46, 122]⟩ : ByteArray) t147 _ ?side1 A2.out).mono ?_); (case side1 => exact Laid.go hLd (by repeat (first | (with_reducible first | exact HB.out | apply below_alloc | apply pw_below_drewN | apply below_drew1) | exact HB.out))); rintro e w15 ⟨v148, rfl, ho0, hb⟩; refine ⟨_, rfl, ?_⟩; have n0_ := Aside0.mk (Kd.R_elder' (by (with_reducible repeat (first | apply Kd.R_alloc | apply Kd.R_drewN | apply Kd.R_drew)); exact HO146.out) (Kd.R_base ho0) hb); have n1_ := Aside0.mk (Kd.R_lower (Kd.R_new' ho0 (Kd.R_lt (by (with_reducible repeat (first | apply Kd.R_alloc | apply Kd.R_drewN | apply Kd.R_drew)); exact HO146.out))) (below_size (by repeat (first | (with_reducible first | exact HB.out | apply below_alloc | apply pw_below_drewN | apply below_drew1) | exact HB.out)))); have n2_ := Aside0.mk (below_step (by repeat (first | (with_reducible first | exact HB.out | apply below_alloc | apply pw_below_drewN | apply below_drew1) | exact HB.out)) hb); clear HO146; clear HB; have HO146 := n0_; have HO149 := n1_; have HB := n2_; clear n0_ n1_ n2_; (try clear hb); (try clear hb2); (try clear hk); (try clear hi); (try clear ho0); obtain ⟨Ao16, co16, eo16⟩ := Kd.R_slice HO146.out; subst eo16; have p150 : 0 ≤ (0 : Int) := (by omega); have q150 : 0 < (t144.length : Int) := of_decide_eq_true (by first | (with_reducible assumption) | assumption); obtain ⟨ad150, e150, hx150_0, hx150_1, hx150_2⟩ := at_T26 (Kd.R_reads' HO146.out).2.2 0 p150 q150; cases e150; have qi150 : (0 < t144.length) = True := eq_true (by omega); (try rw [show ((0 : Int)).toNat = 0 from rfl] at hx150_0); (try rw [show 0 * 3 = 0 from rfl] at hx150_0); (try rw [Addr.add_zero'] at hx150_0); (try rw [show ((0 : Int)).toNat = 0 from rfl] at hx150_1); (try rw [show 0 * 3 = 0 from rfl] at hx150_1); (try rw [Addr.add_zero'] at hx150_1); (try rw [show ((0 : Int)).toNat = 0 from rfl] at hx150_2); (try rw [show 0 * 3 = 0 from rfl] at hx150_2); (try rw [Addr.add_zero'] at hx150_2); replace p150 := eq_true p150; replace q150 := eq_true q150; have p151 : 0 ≤ (0 : Int) := (by omega); have q151 : 0 < (t144.length : Int) := of_decide_eq_true (by first | (with_reducible assumption) | assumption); obtain ⟨ad151, e151, hx151_0, hx151_1, hx151_2⟩ := at_T26 (Kd.R_reads' HO146.out).2.2 0 p151 q151; obtain rfl : ad150 = ad151 := (by injection e151); have qi151 : (0 < t144.length) = True := eq_true (by omega); (try rw [show ((0 : Int)).toNat = 0 from rfl] at hx151_0); (try rw [show 0 * 3 = 0 from rfl] at hx151_0); (try rw [Addr.add_zero'] at hx151_0); (try rw [show ((0 : Int)).toNat = 0 from rfl] at hx151_1); (try rw [show 0 * 3 = 0 from rfl] at hx151_1); (try rw [Addr.add_zero'] at hx151_1); (try rw [show ((0 : Int)).toNat = 0 from rfl] at hx151_2); (try rw [show 0 * 3 = 0 from rfl] at hx151_2); (try rw [Addr.add_zero'] at hx151_2); replace p151 := eq_true p151; replace q151 := eq_true q151; have p152 : 0 ≤ (0 : Int) := (by omega); have q152 : 0 < (t144.length : Int) := of_decide_eq_true (by first | (with_reducible assumption) | assumption); obtain ⟨ad152, e152, hx152_0, hx152_1, hx152_2⟩ := at_T26 (Kd.R_reads' HO146.out).2.2 0 p152 q152; obtain rfl : ad150 = ad152 := (by injection e152); have qi152 : (0 < t144.length) = True := eq_true (by omega); (try rw [show ((0 : Int)).toNat = 0 from rfl] at hx152_0); (try rw [show 0 * 3 = 0 from rfl] at hx152_0); (try rw [Addr.add_zero'] at hx152_0); (try rw [show ((0 : Int)).toNat = 0 from rfl] at hx152_1); (try rw [show 0 * 3 = 0 from rfl] at hx152_1); (try rw [Addr.add_zero'] at hx152_1); (try rw [show ((0 : Int)).toNat = 0 from rfl] at hx152_2); (try rw [show 0 * 3 = 0 from rfl] at hx152_2); (try rw [Addr.add_zero'] at hx152_2); replace p152 := eq_true p152; replace q152 := eq_true q152; obtain ⟨Ao17, co17, eo17⟩ := Kd.R_slice HO149.out; subst eo17))
              go_ret
              exact ⟨by first | rfl | (simp [errW_none, errW_some] <;> rfl) | (simp [*, errW_none, errW_some] <;> rfl), by repeat (first | (with_reducible first | exact HB.out | apply below_alloc | apply pw_below_drewN | apply below_drew1) | exact HB.out)⟩
          · rw [if_neg c7] at H
            have c7b0 : (((rd_T26 t144 0).f2).toList == ([104, 116, 116, 112, 58, 47, 47, 119, 119, 119, 46, 97, 46, 98] : List UInt8)) = false := beq_eq_false_iff_ne.mpr c7
            have c7b1 : (((rd_T26 t144 0).f2).toList != ([104, 116, 116, 112, 58, 47, 47, 119, 119, 119, 46, 97, 46, 98] : List UInt8)) = true := bne_iff_ne.mpr c7
            obtain rfl := Option.some.inj H
            go_enter Tryd.func8, Tryd.ntmps8
            go_wp2_with (first | ((with_reducible refine gate_callee (f := 9) rfl ?_); refine goesL_ (some 3) rfl rfl Tryd.func9 (by kernel_rfl) rfl #[.string (⟨#[115, 101, 101, 32, 119, 119, 119, 46, 97, 46, 98, 46]⟩ : ByteArray)] rfl (by (try simp only [List.map_toArray, List.map_cons, List.map_nil]); first | done | rfl | (simp only [List.length_drop, List.length_take]; rfl)) ?_; (with_reducible refine (auto_Find.calls k (⟨#[115, 101, 101, 32, 119, 119, 119, 46, 97, 46, 98, 46]⟩ : ByteArray) t144 _ ?side1 A1.out).mono ?_); (case side1 => exact Laid.go hLd (by repeat (first | (with_reducible first | exact HB.out | apply below_alloc | apply pw_below_drewN | apply below_drew1) | exact HB.out))); rintro e w18 ⟨v145, rfl, ho0, hb⟩; refine ⟨_, rfl, ?_⟩; have n0_ := Aside0.mk (Kd.R_lower ho0 (below_size (by repeat (first | (with_reducible first | exact HB.out | apply below_alloc | apply pw_below_drewN | apply below_drew1) | exact HB.out)))); have n1_ := Aside0.mk (below_step (by repeat (first | (with_reducible first | exact HB.out | apply below_alloc | apply pw_below_drewN | apply below_drew1) | exact HB.out)) hb); clear HB; have HO146 := n0_; have HB := n1_; clear n0_ n1_; (try clear hb); (try clear hb2); (try clear hk); (try clear hi); (try clear ho0)) | ((with_reducible refine gate_callee (f := 9) rfl ?_); refine goesL_ (some 4) rfl rfl Tryd.func9 (by kernel_rfl) rfl #[.string (⟨#[120, 64, 121, 46, 122]⟩ : ByteArray)] rfl (by (try simp only [List.map_toArray, List.map_cons, List.map_nil]); first | done | rfl | (simp only [List.length_drop, List.length_take]; rfl)) ?_; (with_reducible refine (auto_Find.calls k (⟨#[120, 64, 121, 46, 122]⟩ : ByteArray) t147 _ ?side1 A2.out).mono ?_); (case side1 => exact Laid.go hLd (by repeat (first | (with_reducible first | exact HB.out | apply below_alloc | apply pw_below_drewN | apply below_drew1) | exact HB.out))); rintro e w19 ⟨v148, rfl, ho0, hb⟩; refine ⟨_, rfl, ?_⟩; have n0_ := Aside0.mk (Kd.R_elder' (by (with_reducible repeat (first | apply Kd.R_alloc | apply Kd.R_drewN | apply Kd.R_drew)); exact HO146.out) (Kd.R_base ho0) hb); have n1_ := Aside0.mk (Kd.R_lower (Kd.R_new' ho0 (Kd.R_lt (by (with_reducible repeat (first | apply Kd.R_alloc | apply Kd.R_drewN | apply Kd.R_drew)); exact HO146.out))) (below_size (by repeat (first | (with_reducible first | exact HB.out | apply below_alloc | apply pw_below_drewN | apply below_drew1) | exact HB.out)))); have n2_ := Aside0.mk (below_step (by repeat (first | (with_reducible first | exact HB.out | apply below_alloc | apply pw_below_drewN | apply below_drew1) | exact HB.out)) hb); clear HO146; clear HB; have HO146 := n0_; have HO149 := n1_; have HB := n2_; clear n0_ n1_ n2_; (try clear hb); (try clear hb2); (try clear hk); (try clear hi); (try clear ho0); obtain ⟨Ao20, co20, eo20⟩ := Kd.R_slice HO146.out; subst eo20; have p150 : 0 ≤ (0 : Int) := (by omega); have q150 : 0 < (t144.length : Int) := of_decide_eq_true (by first | (with_reducible assumption) | assumption); obtain ⟨ad150, e150, hx150_0, hx150_1, hx150_2⟩ := at_T26 (Kd.R_reads' HO146.out).2.2 0 p150 q150; cases e150; have qi150 : (0 < t144.length) = True := eq_true (by omega); (try rw [show ((0 : Int)).toNat = 0 from rfl] at hx150_0); (try rw [show 0 * 3 = 0 from rfl] at hx150_0); (try rw [Addr.add_zero'] at hx150_0); (try rw [show ((0 : Int)).toNat = 0 from rfl] at hx150_1); (try rw [show 0 * 3 = 0 from rfl] at hx150_1); (try rw [Addr.add_zero'] at hx150_1); (try rw [show ((0 : Int)).toNat = 0 from rfl] at hx150_2); (try rw [show 0 * 3 = 0 from rfl] at hx150_2); (try rw [Addr.add_zero'] at hx150_2); replace p150 := eq_true p150; replace q150 := eq_true q150; have p151 : 0 ≤ (0 : Int) := (by omega); have q151 : 0 < (t144.length : Int) := of_decide_eq_true (by first | (with_reducible assumption) | assumption); obtain ⟨ad151, e151, hx151_0, hx151_1, hx151_2⟩ := at_T26 (Kd.R_reads' HO146.out).2.2 0 p151 q151; obtain rfl : ad150 = ad151 := (by injection e151); have qi151 : (0 < t144.length) = True := eq_true (by omega); (try rw [show ((0 : Int)).toNat = 0 from rfl] at hx151_0); (try rw [show 0 * 3 = 0 from rfl] at hx151_0); (try rw [Addr.add_zero'] at hx151_0); (try rw [show ((0 : Int)).toNat = 0 from rfl] at hx151_1); (try rw [show 0 * 3 = 0 from rfl] at hx151_1); (try rw [Addr.add_zero'] at hx151_1); (try rw [show ((0 : Int)).toNat = 0 from rfl] at hx151_2); (try rw [show 0 * 3 = 0 from rfl] at hx151_2); (try rw [Addr.add_zero'] at hx151_2); replace p151 := eq_true p151; replace q151 := eq_true q151; have p152 : 0 ≤ (0 : Int) := (by omega); have q152 : 0 < (t144.length : Int) := of_decide_eq_true (by first | (with_reducible assumption) | assumption); obtain ⟨ad152, e152, hx152_0, hx152_1, hx152_2⟩ := at_T26 (Kd.R_reads' HO146.out).2.2 0 p152 q152; obtain rfl : ad150 = ad152 := (by injection e152); have qi152 : (0 < t144.length) = True := eq_true (by omega); (try rw [show ((0 : Int)).toNat = 0 from rfl] at hx152_0); (try rw [show 0 * 3 = 0 from rfl] at hx152_0); (try rw [Addr.add_zero'] at hx152_0); (try rw [show ((0 : Int)).toNat = 0 from rfl] at hx152_1); (try rw [show 0 * 3 = 0 from rfl] at hx152_1); (try rw [Addr.add_zero'] at hx152_1); (try rw [show ((0 : Int)).toNat = 0 from rfl] at hx152_2); (try rw [show 0 * 3 = 0 from rfl] at hx152_2); (try rw [Addr.add_zero'] at hx152_2); replace p152 := eq_true p152; replace q152 := eq_true q152))
            go_ret
            exact ⟨by first | rfl | (simp [errW_none, errW_some] <;> rfl) | (simp [*, errW_none, errW_some] <;> rfl), by repeat (first | (with_reducible first | exact HB.out | apply below_alloc | apply pw_below_drewN | apply below_drew1) | exact HB.out)⟩
        · rw [if_neg c6] at H
          have c6b0 : (((rd_T26 t144 0).f1) == 11) = false := beq_eq_false_iff_ne.mpr c6
          have c6b1 : (((rd_T26 t144 0).f1) != 11) = true := bne_iff_ne.mpr c6
          obtain rfl := Option.some.inj H
          go_enter Tryd.func8, Tryd.ntmps8
          go_wp2_with (first | ((with_reducible refine gate_callee (f := 9) rfl ?_); refine goesL_ (some 3) rfl rfl Tryd.func9 (by kernel_rfl) rfl #[.string (⟨#[115, 101, 101, 32, 119, 119, 119, 46, 97, 46, 98, 46]⟩ : ByteArray)] rfl (by (try simp only [List.map_toArray, List.map_cons, List.map_nil]); first | done | rfl | (simp only [List.length_drop, List.length_take]; rfl)) ?_; (with_reducible refine (auto_Find.calls k (⟨#[115, 101, 101, 32, 119, 119, 119, 46, 97, 46, 98, 46]⟩ : ByteArray) t144 _ ?side1 A1.out).mono ?_); (case side1 => exact Laid.go hLd (by repeat (first | (with_reducible first | exact HB.out | apply below_alloc | apply pw_below_drewN | apply below_drew1) | exact HB.out))); rintro e w21 ⟨v145, rfl, ho0, hb⟩; refine ⟨_, rfl, ?_⟩; have n0_ := Aside0.mk (Kd.R_lower ho0 (below_size (by repeat (first | (with_reducible first | exact HB.out | apply below_alloc | apply pw_below_drewN | apply below_drew1) | exact HB.out)))); have n1_ := Aside0.mk (below_step (by repeat (first | (with_reducible first | exact HB.out | apply below_alloc | apply pw_below_drewN | apply below_drew1) | exact HB.out)) hb); clear HB; have HO146 := n0_; have HB := n1_; clear n0_ n1_; (try clear hb); (try clear hb2); (try clear hk); (try clear hi); (try clear ho0)) | ((with_reducible refine gate_callee (f := 9) rfl ?_); refine goesL_ (some 4) rfl rfl Tryd.func9 (by kernel_rfl) rfl #[.string (⟨#[120, 64, 121, 46, 122]⟩ : ByteArray)] rfl (by (try simp only [List.map_toArray, List.map_cons, List.map_nil]); first | done | rfl | (simp only [List.length_drop, List.length_take]; rfl)) ?_; (with_reducible refine (auto_Find.calls k (⟨#[120, 64, 121, 46, 122]⟩ : ByteArray) t147 _ ?side1 A2.out).mono ?_); (case side1 => exact Laid.go hLd (by repeat (first | (with_reducible first | exact HB.out | apply below_alloc | apply pw_below_drewN | apply below_drew1) | exact HB.out))); rintro e w22 ⟨v148, rfl, ho0, hb⟩; refine ⟨_, rfl, ?_⟩; have n0_ := Aside0.mk (Kd.R_elder' (by (with_reducible repeat (first | apply Kd.R_alloc | apply Kd.R_drewN | apply Kd.R_drew)); exact HO146.out) (Kd.R_base ho0) hb); have n1_ := Aside0.mk (Kd.R_lower (Kd.R_new' ho0 (Kd.R_lt (by (with_reducible repeat (first | apply Kd.R_alloc | apply Kd.R_drewN | apply Kd.R_drew)); exact HO146.out))) (below_size (by repeat (first | (with_reducible first | exact HB.out | apply below_alloc | apply pw_below_drewN | apply below_drew1) | exact HB.out)))); have n2_ := Aside0.mk (below_step (by repeat (first | (with_reducible first | exact HB.out | apply below_alloc | apply pw_below_drewN | apply below_drew1) | exact HB.out)) hb); clear HO146; clear HB; have HO146 := n0_; have HO149 := n1_; have HB := n2_; clear n0_ n1_ n2_; (try clear hb); (try clear hb2); (try clear hk); (try clear hi); (try clear ho0); obtain ⟨Ao23, co23, eo23⟩ := Kd.R_slice HO146.out; subst eo23; have p150 : 0 ≤ (0 : Int) := (by omega); have q150 : 0 < (t144.length : Int) := of_decide_eq_true (by first | (with_reducible assumption) | assumption); obtain ⟨ad150, e150, hx150_0, hx150_1, hx150_2⟩ := at_T26 (Kd.R_reads' HO146.out).2.2 0 p150 q150; cases e150; have qi150 : (0 < t144.length) = True := eq_true (by omega); (try rw [show ((0 : Int)).toNat = 0 from rfl] at hx150_0); (try rw [show 0 * 3 = 0 from rfl] at hx150_0); (try rw [Addr.add_zero'] at hx150_0); (try rw [show ((0 : Int)).toNat = 0 from rfl] at hx150_1); (try rw [show 0 * 3 = 0 from rfl] at hx150_1); (try rw [Addr.add_zero'] at hx150_1); (try rw [show ((0 : Int)).toNat = 0 from rfl] at hx150_2); (try rw [show 0 * 3 = 0 from rfl] at hx150_2); (try rw [Addr.add_zero'] at hx150_2); replace p150 := eq_true p150; replace q150 := eq_true q150; have p151 : 0 ≤ (0 : Int) := (by omega); have q151 : 0 < (t144.length : Int) := of_decide_eq_true (by first | (with_reducible assumption) | assumption); obtain ⟨ad151, e151, hx151_0, hx151_1, hx151_2⟩ := at_T26 (Kd.R_reads' HO146.out).2.2 0 p151 q151; obtain rfl : ad150 = ad151 := (by injection e151); have qi151 : (0 < t144.length) = True := eq_true (by omega); (try rw [show ((0 : Int)).toNat = 0 from rfl] at hx151_0); (try rw [show 0 * 3 = 0 from rfl] at hx151_0); (try rw [Addr.add_zero'] at hx151_0); (try rw [show ((0 : Int)).toNat = 0 from rfl] at hx151_1); (try rw [show 0 * 3 = 0 from rfl] at hx151_1); (try rw [Addr.add_zero'] at hx151_1); (try rw [show ((0 : Int)).toNat = 0 from rfl] at hx151_2); (try rw [show 0 * 3 = 0 from rfl] at hx151_2); (try rw [Addr.add_zero'] at hx151_2); replace p151 := eq_true p151; replace q151 := eq_true q151))
          go_ret
          exact ⟨by first | rfl | (simp [errW_none, errW_some] <;> rfl) | (simp [*, errW_none, errW_some] <;> rfl), by repeat (first | (with_reducible first | exact HB.out | apply below_alloc | apply pw_below_drewN | apply below_drew1) | exact HB.out)⟩
      · rw [if_neg c5] at H
        have c5b0 : (((rd_T26 t144 0).f0) == 4) = false := beq_eq_false_iff_ne.mpr c5
        have c5b1 : (((rd_T26 t144 0).f0) != 4) = true := bne_iff_ne.mpr c5
        obtain rfl := Option.some.inj H
        go_enter Tryd.func8, Tryd.ntmps8
        go_wp2_with (first | ((with_reducible refine gate_callee (f := 9) rfl ?_); refine goesL_ (some 3) rfl rfl Tryd.func9 (by kernel_rfl) rfl #[.string (⟨#[115, 101, 101, 32, 119, 119, 119, 46, 97, 46, 98, 46]⟩ : ByteArray)] rfl (by (try simp only [List.map_toArray, List.map_cons, List.map_nil]); first | done | rfl | (simp only [List.length_drop, List.length_take]; rfl)) ?_; (with_reducible refine (auto_Find.calls k (⟨#[115, 101, 101, 32, 119, 119, 119, 46, 97, 46, 98, 46]⟩ : ByteArray) t144 _ ?side1 A1.out).mono ?_); (case side1 => exact Laid.go hLd (by repeat (first | (with_reducible first | exact HB.out | apply below_alloc | apply pw_below_drewN | apply below_drew1) | exact HB.out))); rintro e w24 ⟨v145, rfl, ho0, hb⟩; refine ⟨_, rfl, ?_⟩; have n0_ := Aside0.mk (Kd.R_lower ho0 (below_size (by repeat (first | (with_reducible first | exact HB.out | apply below_alloc | apply pw_below_drewN | apply below_drew1) | exact HB.out)))); have n1_ := Aside0.mk (below_step (by repeat (first | (with_reducible first | exact HB.out | apply below_alloc | apply pw_below_drewN | apply below_drew1) | exact HB.out)) hb); clear HB; have HO146 := n0_; have HB := n1_; clear n0_ n1_; (try clear hb); (try clear hb2); (try clear hk); (try clear hi); (try clear ho0)) | ((with_reducible refine gate_callee (f := 9) rfl ?_); refine goesL_ (some 4) rfl rfl Tryd.func9 (by kernel_rfl) rfl #[.string (⟨#[120, 64, 121, 46, 122]⟩ : ByteArray)] rfl (by (try simp only [List.map_toArray, List.map_cons, List.map_nil]); first | done | rfl | (simp only [List.length_drop, List.length_take]; rfl)) ?_; (with_reducible refine (auto_Find.calls k (⟨#[120, 64, 121, 46, 122]⟩ : ByteArray) t147 _ ?side1 A2.out).mono ?_); (case side1 => exact Laid.go hLd (by repeat (first | (with_reducible first | exact HB.out | apply below_alloc | apply pw_below_drewN | apply below_drew1) | exact HB.out))); rintro e w25 ⟨v148, rfl, ho0, hb⟩; refine ⟨_, rfl, ?_⟩; have n0_ := Aside0.mk (Kd.R_elder' (by (with_reducible repeat (first | apply Kd.R_alloc | apply Kd.R_drewN | apply Kd.R_drew)); exact HO146.out) (Kd.R_base ho0) hb); have n1_ := Aside0.mk (Kd.R_lower (Kd.R_new' ho0 (Kd.R_lt (by (with_reducible repeat (first | apply Kd.R_alloc | apply Kd.R_drewN | apply Kd.R_drew)); exact HO146.out))) (below_size (by repeat (first | (with_reducible first | exact HB.out | apply below_alloc | apply pw_below_drewN | apply below_drew1) | exact HB.out)))); have n2_ := Aside0.mk (below_step (by repeat (first | (with_reducible first | exact HB.out | apply below_alloc | apply pw_below_drewN | apply below_drew1) | exact HB.out)) hb); clear HO146; clear HB; have HO146 := n0_; have HO149 := n1_; have HB := n2_; clear n0_ n1_ n2_; (try clear hb); (try clear hb2); (try clear hk); (try clear hi); (try clear ho0); obtain ⟨Ao26, co26, eo26⟩ := Kd.R_slice HO146.out; subst eo26; have p150 : 0 ≤ (0 : Int) := (by omega); have q150 : 0 < (t144.length : Int) := of_decide_eq_true (by first | (with_reducible assumption) | assumption); obtain ⟨ad150, e150, hx150_0, hx150_1, hx150_2⟩ := at_T26 (Kd.R_reads' HO146.out).2.2 0 p150 q150; cases e150; have qi150 : (0 < t144.length) = True := eq_true (by omega); (try rw [show ((0 : Int)).toNat = 0 from rfl] at hx150_0); (try rw [show 0 * 3 = 0 from rfl] at hx150_0); (try rw [Addr.add_zero'] at hx150_0); (try rw [show ((0 : Int)).toNat = 0 from rfl] at hx150_1); (try rw [show 0 * 3 = 0 from rfl] at hx150_1); (try rw [Addr.add_zero'] at hx150_1); (try rw [show ((0 : Int)).toNat = 0 from rfl] at hx150_2); (try rw [show 0 * 3 = 0 from rfl] at hx150_2); (try rw [Addr.add_zero'] at hx150_2); replace p150 := eq_true p150; replace q150 := eq_true q150))
        go_ret
        exact ⟨by first | rfl | (simp [errW_none, errW_some] <;> rfl) | (simp [*, errW_none, errW_some] <;> rfl), by repeat (first | (with_reducible first | exact HB.out | apply below_alloc | apply pw_below_drewN | apply below_drew1) | exact HB.out)⟩
    · rw [if_neg c4] at H
      exact absurd H (by simp)
  · rw [if_neg c3] at H
    have c3b0 : ((t144.length : Int) == 1) = false := beq_eq_false_iff_ne.mpr c3
    have c3b1 : ((t144.length : Int) != 1) = true := bne_iff_ne.mpr c3
    obtain rfl := Option.some.inj H
    go_enter Tryd.func8, Tryd.ntmps8
    go_wp2_with (first | ((with_reducible refine gate_callee (f := 9) rfl ?_); refine goesL_ (some 3) rfl rfl Tryd.func9 (by kernel_rfl) rfl #[.string (⟨#[115, 101, 101, 32, 119, 119, 119, 46, 97, 46, 98, 46]⟩ : ByteArray)] rfl (by (try simp only [List.map_toArray, List.map_cons, List.map_nil]); first | done | rfl | (simp only [List.length_drop, List.length_take]; rfl)) ?_; (with_reducible refine (auto_Find.calls k (⟨#[115, 101, 101, 32, 119, 119, 119, 46, 97, 46, 98, 46]⟩ : ByteArray) t144 _ ?side1 A1.out).mono ?_); (case side1 => exact Laid.go hLd (by repeat (first | (with_reducible first | exact HB.out | apply below_alloc | apply pw_below_drewN | apply below_drew1) | exact HB.out))); rintro e w27 ⟨v145, rfl, ho0, hb⟩; refine ⟨_, rfl, ?_⟩; have n0_ := Aside0.mk (Kd.R_lower ho0 (below_size (by repeat (first | (with_reducible first | exact HB.out | apply below_alloc | apply pw_below_drewN | apply below_drew1) | exact HB.out)))); have n1_ := Aside0.mk (below_step (by repeat (first | (with_reducible first | exact HB.out | apply below_alloc | apply pw_below_drewN | apply below_drew1) | exact HB.out)) hb); clear HB; have HO146 := n0_; have HB := n1_; clear n0_ n1_; (try clear hb); (try clear hb2); (try clear hk); (try clear hi); (try clear ho0)) | ((with_reducible refine gate_callee (f := 9) rfl ?_); refine goesL_ (some 4) rfl rfl Tryd.func9 (by kernel_rfl) rfl #[.string (⟨#[120, 64, 121, 46, 122]⟩ : ByteArray)] rfl (by (try simp only [List.map_toArray, List.map_cons, List.map_nil]); first | done | rfl | (simp only [List.length_drop, List.length_take]; rfl)) ?_; (with_reducible refine (auto_Find.calls k (⟨#[120, 64, 121, 46, 122]⟩ : ByteArray) t147 _ ?side1 A2.out).mono ?_); (case side1 => exact Laid.go hLd (by repeat (first | (with_reducible first | exact HB.out | apply below_alloc | apply pw_below_drewN | apply below_drew1) | exact HB.out))); rintro e w28 ⟨v148, rfl, ho0, hb⟩; refine ⟨_, rfl, ?_⟩; have n0_ := Aside0.mk (Kd.R_elder' (by (with_reducible repeat (first | apply Kd.R_alloc | apply Kd.R_drewN | apply Kd.R_drew)); exact HO146.out) (Kd.R_base ho0) hb); have n1_ := Aside0.mk (Kd.R_lower (Kd.R_new' ho0 (Kd.R_lt (by (with_reducible repeat (first | apply Kd.R_alloc | apply Kd.R_drewN | apply Kd.R_drew)); exact HO146.out))) (below_size (by repeat (first | (with_reducible first | exact HB.out | apply below_alloc | apply pw_below_drewN | apply below_drew1) | exact HB.out)))); have n2_ := Aside0.mk (below_step (by repeat (first | (with_reducible first | exact HB.out | apply below_alloc | apply pw_below_drewN | apply below_drew1) | exact HB.out)) hb); clear HO146; clear HB; have HO146 := n0_; have HO149 := n1_; have HB := n2_; clear n0_ n1_ n2_; (try clear hb); (try clear hb2); (try clear hk); (try clear hi); (try clear ho0); obtain ⟨Ao29, co29, eo29⟩ := Kd.R_slice HO146.out; subst eo29))
    go_ret
    exact ⟨by first | rfl | (simp [errW_none, errW_some] <;> rfl) | (simp [*, errW_none, errW_some] <;> rfl), by repeat (first | (with_reducible first | exact HB.out | apply below_alloc | apply pw_below_drewN | apply below_drew1) | exact HB.out)⟩

end Go.Proofs.YtddmddlaamcpiaaDoor.PA

namespace Go.Proofs.YtddmddlaamcpiaaDoor.Pl
open Go.RowKit Go.Proofs.YtddmddlaamcpiaaDoorW.PrintWords Go.Proofs.YtddmddlaamcpiaaDoorW.PrintMore

/-- A letter or a digit. -/
def wd (x : UInt8) : Bool := (97 ≤ (x.toNat ||| 32) && (x.toNat ||| 32) ≤ 122) || (48 ≤ x.toNat && x.toNat ≤ 57)
theorem word_f (x : UInt8) : PA.auto_word.f (x.toNat : Int) = some (wd x) := by
  have h : ∀ y : Fin 256, PA.auto_word.f ((y.val : Nat) : Int) = some (wd (UInt8.ofNat y.val)) := by decide +kernel
  have h0 := h ⟨x.toNat, x.toNat_lt⟩
  rw [show UInt8.ofNat x.toNat = x from UInt8.ofNat_toNat] at h0
  exact h0
theorem ib_iff (l : List UInt8) (c : UInt8) : 0 ≤ Lib.indexByte l c ↔ l.contains c = true := by
  have hge := Lib.indexByte_ge l c
  constructor
  · intro h
    obtain ⟨o, ho⟩ := Int.eq_ofNat_of_zero_le h
    have := (Lib.indexByte_some ho).1
    rw [List.contains_iff_mem]
    exact List.mem_of_getElem? this
  · intro h
    rw [List.contains_iff_mem] at h
    obtain ⟨k, hk⟩ := List.getElem?_of_mem h
    by_cases h1 : Lib.indexByte l c < 0
    · exact absurd hk (Lib.indexByte_none (by omega) k)
    · omega
theorem idx_f (m : List UInt8) (x : UInt8) : PA.strings_IndexByte.f (B m) (x.toNat : Int) = some (Lib.indexByte m x) := by
  unfold PA.strings_IndexByte.f
  rw [B_data, Int.toNat_natCast]
  congr 2
  simp
/-- How many bytes are words, or of some. -/
def wl (m l : List UInt8) : Nat := (l.takeWhile fun x => wd x || m.contains x).length
theorem tw_le {p : UInt8 → Bool} : ∀ l : List UInt8, (l.takeWhile p).length ≤ l.length
  | [] => by simp
  | x :: t => by
    rw [List.takeWhile_cons]
    have := tw_le (p := p) t
    split
    · simp only [List.length_cons]; omega
    · simp
theorem wl_le (m l : List UInt8) : wl m l ≤ l.length := tw_le l
theorem while_l (l m : List UInt8) (hl : l.length ≤ 1073741824) : ∀ (d i : Nat), i + d = l.length → Ev (fun k => PA.auto_while.l0 k (B l) (B m) (i : Int)) ((i + wl m (l.drop i) : Nat) : Int) := by
  intro d
  induction d with
  | zero =>
    intro i hi
    refine Ev.step (f := fun _ => some ((i + wl m (l.drop i) : Nat) : Int)) (fun k => ?_) (Ev.now _)
    simp only [PA.auto_while.l0]
    rw [if_neg (by rw [B_size]; omega), List.drop_eq_nil_of_le (by omega)]
    rfl
  | succ d ih =>
    intro i hi
    have hil : i < l.length := by omega
    have hdr : l.drop i = l[i] :: l.drop (i + 1) := List.drop_eq_getElem_cons hil
    have hn := ih (i + 1) (by omega)
    have hstep : ∀ k, PA.auto_while.l0 (k + 1) (B l) (B m) (i : Int) = if wd l[i] = true then PA.auto_while.l0 k (B l) (B m) ((i + 1 : Nat) : Int) else if m.contains l[i] = true then PA.auto_while.l0 k (B l) (B m) ((i + 1 : Nat) : Int) else some (i : Int) := by
      intro k
      simp only [PA.auto_while.l0]
      rw [if_pos (by rw [B_size]; omega), if_pos (by omega), B_bt l i hil, word_f, Option.bind_some, idx_f, Option.bind_some, w64 (by omega) (by omega), show (i : Int) + 1 = ((i + 1 : Nat) : Int) from rfl]
      have := ib_iff m l[i]
      by_cases h1 : m.contains l[i] = true
      · rw [if_pos (this.2 h1), if_pos h1]
      · rw [if_neg (fun h => h1 (this.1 h)), if_neg h1]
    rw [hdr]
    by_cases h : (wd l[i] || m.contains l[i]) = true
    · have e : i + wl m (l[i] :: l.drop (i + 1)) = (i + 1) + wl m (l.drop (i + 1)) := by
        unfold wl
        rw [List.takeWhile_cons, if_pos h, List.length_cons]
        omega
      rw [e]
      refine Ev.step (fun k => ?_) hn
      rw [hstep]
      by_cases h1 : wd l[i] = true
      · rw [if_pos h1]
      · rw [if_neg h1, if_pos (by simpa [h1] using h)]
    · have e : i + wl m (l[i] :: l.drop (i + 1)) = i := by
        unfold wl
        rw [List.takeWhile_cons, if_neg h]
        rfl
      rw [e]
      refine Ev.step (f := fun _ => some (i : Int)) (fun k => ?_) (Ev.now _)
      rw [hstep, if_neg (by intro h1; exact h (by rw [h1]; rfl)), if_neg (by intro h1; exact h (by rw [h1]; simp))]
theorem while_ev (l m : List UInt8) (hl : l.length ≤ 1073741824) : Ev (fun k => PA.auto_while.f k (B l) (B m)) ((wl m l : Nat) : Int) := by
  have := while_l l m hl l.length 0 (by omega)
  rw [Nat.zero_add, List.drop_zero] at this
  exact this
/-- The host's text: without dots at its end. -/
def hostT (l : List UInt8) : List UInt8 := Lib.trimRightS (l.take (wl [45, 95, 46] l)) [46]
/-- A host's parts. -/
def pts (h : List UInt8) : List ByteArray := Lib.splitB ⟨#[46]⟩ 0 (Lib.countB (B h) ⟨#[46]⟩) (B h)
def us (h : List UInt8) : Bool := decide (0 ≤ Lib.indexByte (((pts h).getD ((pts h).length - 1) ByteArray.empty) ++ ((pts h).getD ((pts h).length - 2) ByteArray.empty)).data.toList 95)
def hostBad (h : List UInt8) : Bool := decide ((pts h).length < 2) || us h || (pts h).any fun p => decide (p.toList = [])
def host (l : List UInt8) : Nat := if hostBad (hostT l) = true then 0 else (hostT l).length
theorem dw_le {p : UInt8 → Bool} : ∀ l : List UInt8, (l.dropWhile p).length ≤ l.length
  | [] => by simp
  | x :: t => by
    rw [List.dropWhile_cons]
    have := dw_le (p := p) t
    split
    · rw [List.length_cons]; omega
    · exact Nat.le_refl _
theorem tr_le (l cs : List UInt8) : (Lib.trimRightS l cs).length ≤ l.length := by
  unfold Lib.trimRightS
  rw [List.length_reverse]
  have := dw_le (p := (cs.contains ·)) l.reverse
  rw [List.length_reverse] at this
  exact this
theorem hostT_le (l : List UInt8) : (hostT l).length ≤ wl [45, 95, 46] l := by
  unfold hostT
  have := tr_le (l.take (wl [45, 95, 46] l)) [46]
  rw [List.length_take] at this
  omega
theorem host_le (l : List UInt8) : host l ≤ l.length := by
  have h1 := hostT_le l
  have h2 := wl_le [45, 95, 46] l
  unfold host
  split <;> omega
theorem split_size (sep : ByteArray) (sv : Nat) : ∀ (k : Nat) (s : ByteArray), sv = 0 → ∀ p ∈ Lib.splitB sep sv k s, p.size ≤ s.size
  | 0, s, _, p, hp => by
    rw [Lib.splitB_zero, List.mem_singleton] at hp
    rw [hp]
    exact Nat.le_refl _
  | k + 1, s, h0, p, hp => by
    unfold Lib.splitB at hp
    split at hp
    · rw [List.mem_singleton] at hp
      rw [hp]
      exact Nat.le_refl _
    · rcases List.mem_cons.1 hp with rfl | hp
      · rw [ByteArray.size_extract]; omega
      · have := split_size sep sv k _ h0 p hp
        rw [ByteArray.size_extract] at this
        omega
theorem host_l (t : List UInt8) (l : List ByteArray) : ∀ (d i : Nat), i + d = l.length → l.length ≤ 1073741825 → Ev (fun k => PA.auto_host.l0 k (B t) l (l.length : Int) (i : Int)) (if ((l.drop i).any fun p => decide (p.toList = [])) = true then 0 else (t.length : Int)) := by
  intro d
  induction d with
  | zero =>
    intro i hi _
    refine Ev.step (f := fun _ => some (t.length : Int)) (fun k => ?_) (by rw [List.drop_eq_nil_of_le (by omega)]; exact Ev.now _)
    simp only [PA.auto_host.l0]
    rw [if_neg (by omega), B_size]
  | succ d ih =>
    intro i hi hl
    have hil : i < l.length := by omega
    rw [List.drop_eq_getElem_cons hil, List.any_cons]
    by_cases h : l[i].toList = []
    · rw [decide_eq_true h, Bool.true_or, if_pos rfl]
      refine Ev.step (f := fun _ => some 0) (fun k => ?_) (Ev.now _)
      simp only [PA.auto_host.l0]
      rw [if_pos (by omega), if_pos (by omega), if_pos (by omega), getD_at l i hil, if_pos h]
    · rw [decide_eq_false h, Bool.false_or]
      refine Ev.step (fun k => ?_) (ih (i + 1) (by omega) hl)
      simp only [PA.auto_host.l0]
      rw [if_pos (by omega), if_pos (by omega), if_pos (by omega), getD_at l i hil, if_neg h, w64 (by omega) (by omega)]
      rfl
theorem host_ev (l : List UInt8) (hl : l.length ≤ 1073741824) : Ev (fun k => PA.auto_host.f k (B l)) ((host l : Nat) : Int) := by
  have h1 := wl_le [45, 95, 46] l
  have h2 := hostT_le l
  unfold PA.auto_host.f
  refine Ev.bind (while_ev l [45, 95, 46] hl) ?_
  have e1 : (B l).extract 0 (((wl [45, 95, 46] l : Nat) : Int)).toNat = B (l.take (wl [45, 95, 46] l)) := by rw [Int.toNat_natCast, B_to]
  have e2 : PA.strings_TrimRight.f (B (l.take (wl [45, 95, 46] l))) ⟨#[46]⟩ = some (B (hostT l)) := by
    unfold PA.strings_TrimRight.f
    rw [if_pos ⟨by rw [B_size, List.length_take]; omega, by decide, by decide⟩, B_data]
    rfl
  have e3 : PA.strings_Split.f (B (hostT l)) ⟨#[46]⟩ = some (pts (hostT l)) := by
    unfold PA.strings_Split.f
    rw [if_pos ⟨by rw [B_size]; omega, by decide⟩]
    rfl
  have hpl : (pts (hostT l)).length ≤ 1073741825 := by
    unfold pts
    rw [Lib.splitB_all ⟨#[46]⟩ (by decide) 0 _ _ rfl]
    have := Lib.countB_le ⟨#[46]⟩ (by decide) _ (B (hostT l)) (Nat.le_refl _)
    rw [B_size] at this
    omega
  have hps : ∀ p ∈ pts (hostT l), p.size ≤ 1073741824 := fun p hp => by
    have := split_size ⟨#[46]⟩ 0 _ _ rfl p hp
    rw [B_size] at this
    omega
  refine Ev.congr (f := fun k => if (pts (hostT l)).length < 2 then PA.auto_host.j0 k (B (hostT l)) (pts (hostT l)) true else PA.auto_host.j0 k (B (hostT l)) (pts (hostT l)) (us (hostT l))) (fun k => ?_) ?_
  · rw [if_pos (by omega), if_pos (by rw [B_size]; omega), e1, e2, Option.bind_some, e3, Option.bind_some]
    by_cases h : (pts (hostT l)).length < 2
    · rw [if_pos (by omega), if_pos h]
    · have g1 : rdOf ByteArray.empty (pts (hostT l)) (wrap64 (((pts (hostT l)).length : Int) - 1)) = (pts (hostT l)).getD ((pts (hostT l)).length - 1) ByteArray.empty := by
        rw [w64 (by omega) (by omega)]
        unfold rdOf
        congr 1
        omega
      have g2 : rdOf ByteArray.empty (pts (hostT l)) (wrap64 (((pts (hostT l)).length : Int) - 2)) = (pts (hostT l)).getD ((pts (hostT l)).length - 2) ByteArray.empty := by
        rw [w64 (by omega) (by omega)]
        unfold rdOf
        congr 1
        omega
      have s1 : ∀ i, i < (pts (hostT l)).length → ((pts (hostT l)).getD i ByteArray.empty).size ≤ 1073741824 := fun i hi => by
        rw [List.getD_eq_getElem?_getD, List.getElem?_eq_getElem hi]
        exact hps _ (List.getElem_mem hi)
      have s2 := s1 ((pts (hostT l)).length - 1) (by omega)
      have s3 := s1 ((pts (hostT l)).length - 2) (by omega)
      rw [if_neg (by omega), if_neg h, g1, g2, w64 (by omega) (by omega), w64 (by omega) (by omega), if_pos (by omega), if_pos (by omega), if_pos (by omega), if_pos (by omega), if_pos (by omega)]
      unfold PA.strings_Contains.f
      rw [if_pos (by decide), Option.bind_some]
      rfl
  · have hj : ∀ b : Bool, Ev (fun k => PA.auto_host.j0 k (B (hostT l)) (pts (hostT l)) b) (if b = true then 0 else if ((pts (hostT l)).any fun p => decide (p.toList = [])) = true then 0 else ((hostT l).length : Int)) := by
      intro b
      cases b with
      | true =>
        refine Ev.step (f := fun _ => some 0) (fun k => ?_) (by rw [if_pos rfl]; exact Ev.now _)
        simp only [PA.auto_host.j0, if_true]
      | false =>
        have := host_l (hostT l) (pts (hostT l)) _ 0 (Nat.zero_add _) hpl
        rw [List.drop_zero] at this
        rw [if_neg (by decide)]
        refine Ev.step (fun k => ?_) this
        simp only [PA.auto_host.j0]
        rw [if_neg (by decide)]
        rfl
    unfold host hostBad
    by_cases h : (pts (hostT l)).length < 2
    · rw [decide_eq_true h, Bool.true_or, Bool.true_or, if_pos rfl]
      refine Ev.congr (fun k => ?_) (hj true)
      rw [if_pos h]
    · have h3 := hj (us (hostT l))
      rw [decide_eq_false h, Bool.false_or]
      have e4 : (((if (us (hostT l) || (pts (hostT l)).any fun p => decide (p.toList = [])) = true then 0 else (hostT l).length : Nat)) : Int) = if us (hostT l) = true then 0 else if ((pts (hostT l)).any fun p => decide (p.toList = [])) = true then 0 else ((hostT l).length : Int) := by
        cases us (hostT l) <;> cases ((pts (hostT l)).any fun p => decide (p.toList = [])) <;> rfl
      rw [e4]
      refine Ev.congr (fun k => ?_) h3
      rw [if_neg h]
end Go.Proofs.YtddmddlaamcpiaaDoor.Pl

namespace Go.Proofs.YtddmddlaamcpiaaDoor.Pl
open Go.RowKit Go.Proofs.YtddmddlaamcpiaaDoorW.PrintWords Go.Proofs.YtddmddlaamcpiaaDoorW.PrintMore

/-- How many bytes a reference is with which a text ends. -/
def refer (l : List UInt8) : Nat :=
  if Lib.lastIndexByte (B l) 38 < 0 then 0 else if Lib.lastIndexByte (B l) 38 + 2 ≥ l.length then 0
  else if (wl [] (l.drop (Lib.lastIndexByte (B l) 38 + 1).toNat) : Int) = (l.length : Int) - Lib.lastIndexByte (B l) 38 - 2 then ((l.length : Int) - Lib.lastIndexByte (B l) 38).toNat else 0
theorem last_ge (l : List UInt8) (c : Int) : -1 ≤ Lib.lastIndexByte (B l) c := by
  have := Lib.lastIdx_spec (B l) c (B l).size
  unfold Lib.lastIndexByte
  rcases this with ⟨h, _⟩ | ⟨i, _, h, _⟩ <;> omega
theorem last_lt (l : List UInt8) (c : Int) : Lib.lastIndexByte (B l) c < l.length ∨ Lib.lastIndexByte (B l) c = -1 := by
  have := Lib.lastIdx_spec (B l) c (B l).size
  unfold Lib.lastIndexByte
  rw [B_size] at *
  rcases this with ⟨h, _⟩ | ⟨i, _, h, _⟩ <;> omega
theorem refer_ev (l : List UInt8) (hl : l.length ≤ 1073741824) : Ev (fun k => PA.auto_reference.f k (B l)) ((refer l : Nat) : Int) := by
  have hge := last_ge l 38
  have hlt := last_lt l 38
  have e0 : PA.strings_LastIndexByte.f (B l) 38 = some (Lib.lastIndexByte (B l) 38) := by
    unfold PA.strings_LastIndexByte.f
    rw [if_pos (by rw [B_size]; omega)]
  unfold PA.auto_reference.f refer
  generalize Lib.lastIndexByte (B l) 38 = n at *
  rw [e0]
  simp only [Option.bind_some]
  by_cases h1 : n < 0
  · rw [if_pos h1]
    refine Ev.congr (fun k => ?_) (Ev.now _)
    rw [if_pos h1]
    rfl
  · rw [if_neg h1]
    by_cases h2 : n + 2 ≥ (l.length : Int)
    · rw [if_pos h2]
      refine Ev.congr (fun k => ?_) (Ev.now _)
      rw [if_neg h1, B_size]
      rw [w64 (by omega) (by omega), if_pos h2]
      rfl
    · rw [if_neg h2]
      have e1 : (B l).extract (n + 1).toNat (B l).size = B (l.drop (n + 1).toNat) := B_from l _ _ (B_size l)
      refine Ev.congr (f := fun k => (PA.auto_while.f k (B (l.drop (n + 1).toNat)) (B [])).bind fun t115 => if t115 = (l.length : Int) - n - 2 then some ((l.length : Int) - n) else some 0) (fun k => ?_) ?_
      · have q1 : wrap64 ((l.length : Int) - n) = (l.length : Int) - n := w64 (by omega) (by omega)
        have q2 : wrap64 ((l.length : Int) - n - 2) = (l.length : Int) - n - 2 := w64 (by omega) (by omega)
        have q3 : wrap64 (n + 1) = n + 1 := w64 (by omega) (by omega)
        have q4 : wrap64 (n + 2) = n + 2 := w64 (by omega) (by omega)
        rw [if_neg h1, q3, q4, e1, B_size, q1, q2, if_neg h2, if_pos (by omega), if_pos (by omega)]
        rfl
      · refine Ev.bind (while_ev _ [] (by rw [List.length_drop]; omega)) ?_
        by_cases h3 : (wl [] (l.drop (n + 1).toNat) : Int) = (l.length : Int) - n - 2
        · rw [if_pos h3]
          refine Ev.congr (fun k => ?_) (Ev.now _)
          rw [if_pos h3]
          congr 1
          omega
        · rw [if_neg h3]
          refine Ev.congr (fun k => ?_) (Ev.now _)
          rw [if_neg h3]
          rfl
theorem refer_le (l : List UInt8) : refer l ≤ l.length := by
  have hge := last_ge l 38
  unfold refer
  repeat' split
  all_goals omega
/-- What at a text's end is none of an address. -/
def loose : List UInt8 := [63, 33, 46, 44, 58, 42, 95, 126, 39, 34]
def exc (l : List UInt8) (x : UInt8) : Nat := if loose.contains x = true then 1 else if x = 41 ∧ l.count 41 > l.count 40 then 1 else if x = 59 then refer l else 0
theorem exc_ev (l : List UInt8) (hl : l.length ≤ 1073741824) (h0 : 0 < l.length) : Ev (fun k => PA.auto_excess.f k (B l)) ((exc l (l[l.length - 1]'(by omega)) : Nat) : Int) := by
  obtain ⟨x, hx⟩ : ∃ x, l[l.length - 1]'(by omega) = x := ⟨_, rfl⟩
  have e0 : bt (B l) (wrap64 (((B l).size : Int) - 1)) = (x.toNat : Int) := by
    rw [B_size, w64 (by omega) (by omega), show (l.length : Int) - 1 = ((l.length - 1 : Nat) : Int) by omega, B_bt l _ (by omega), hx]
  have h41 : ((x.toNat : Int) = 41) ↔ x = 41 := u8_eq x 41 (by omega)
  have h59 : ((x.toNat : Int) = 59) ↔ x = 59 := u8_eq x 59 (by omega)
  have hib := ib_iff loose x
  have ei : PA.strings_IndexByte.f (⟨#[63, 33, 46, 44, 58, 42, 95, 126, 39, 34]⟩ : ByteArray) (x.toNat : Int) = some (Lib.indexByte loose x) := idx_f loose x
  have ec : ∀ c : UInt8, PA.strings_Count.f (B l) ⟨#[c]⟩ = some (l.count c : Int) := fun c => by
    unfold PA.strings_Count.f
    rw [if_pos (show (⟨#[c]⟩ : ByteArray).size = 1 from rfl), B_data]
    rfl
  rw [hx]
  have hj : ∀ b : Bool, Ev (fun k => PA.auto_excess.j0 k (B l) (x.toNat : Int) b) (if b = true then 1 else if x = 59 then ((refer l : Nat) : Int) else 0) := by
    intro b
    cases b with
    | true =>
      refine Ev.step (f := fun _ => some 1) (fun k => ?_) (by rw [if_pos rfl]; exact Ev.now _)
      simp only [PA.auto_excess.j0, if_true]
    | false =>
      rw [if_neg (by decide)]
      by_cases h : x = 59
      · rw [if_pos h]
        refine Ev.step (f := fun k => (PA.auto_reference.f k (B l)).bind fun t => some t) (fun k => ?_) (Ev.bind (refer_ev l hl) (Ev.now _))
        simp only [PA.auto_excess.j0]
        rw [if_neg (by decide), if_pos (h59.2 h)]
      · rw [if_neg h]
        refine Ev.step (f := fun _ => some 0) (fun k => ?_) (Ev.now _)
        simp only [PA.auto_excess.j0]
        rw [if_neg (by decide), if_neg (fun e => h (h59.1 e))]
  have hs : ((B l).size : Int) = l.length := by rw [B_size]
  unfold PA.auto_excess.f exc
  by_cases h1 : loose.contains x = true
  · rw [if_pos h1]
    refine Ev.congr (fun k => ?_) (Ev.now _)
    rw [e0, if_pos (by rw [hs, w64 (by omega) (by omega)]; omega), if_pos (by rw [hs, w64 (by omega) (by omega)]; omega), ei, Option.bind_some, if_pos (hib.2 h1)]
    rfl
  · rw [if_neg h1]
    by_cases h2 : x = 41
    · have h3 : x ≠ 59 := by subst h2; decide
      have := hj (decide (l.count 41 > l.count 40))
      have e5 : (((if x = 41 ∧ l.count 41 > l.count 40 then 1 else if x = 59 then refer l else 0 : Nat)) : Int) = if decide (l.count 41 > l.count 40) = true then 1 else if x = 59 then ((refer l : Nat) : Int) else 0 := by
        by_cases h4 : l.count 41 > l.count 40
        · rw [if_pos ⟨h2, h4⟩, if_pos (decide_eq_true h4)]; rfl
        · rw [if_neg (fun e => h4 e.2), if_neg (show ¬ decide (l.count 41 > l.count 40) = true by simpa using h4), if_neg h3, if_neg h3]; rfl
      rw [e5]
      refine Ev.congr (fun k => ?_) this
      have e6 : decide ((l.count 41 : Int) > (l.count 40 : Int)) = decide (l.count 41 > l.count 40) := by
        congr 1
        exact propext (by omega)
      rw [e0, if_pos (by rw [hs, w64 (by omega) (by omega)]; omega), if_pos (by rw [hs, w64 (by omega) (by omega)]; omega), ei, Option.bind_some, if_neg (fun e => h1 (hib.1 e)), if_pos (h41.2 h2), ec, Option.bind_some, ec, Option.bind_some, e6]
    · have := hj false
      have e5 : (((if x = 41 ∧ l.count 41 > l.count 40 then 1 else if x = 59 then refer l else 0 : Nat)) : Int) = if false = true then 1 else if x = 59 then ((refer l : Nat) : Int) else 0 := by
        rw [if_neg (fun e => h2 e.1), if_neg (show ¬ false = true by decide)]
        by_cases h4 : x = 59
        · rw [if_pos h4, if_pos h4]
        · rw [if_neg h4, if_neg h4]; rfl
      rw [e5]
      refine Ev.congr (fun k => ?_) this
      rw [e0, if_pos (by rw [hs, w64 (by omega) (by omega)]; omega), if_pos (by rw [hs, w64 (by omega) (by omega)]; omega), ei, Option.bind_some, if_neg (fun e => h1 (hib.1 e)), if_neg (fun e => h2 (h41.1 e))]
end Go.Proofs.YtddmddlaamcpiaaDoor.Pl

namespace Go.Proofs.YtddmddlaamcpiaaDoor.Pl
open Go.RowKit Go.Proofs.YtddmddlaamcpiaaDoorW.PrintWords Go.Proofs.YtddmddlaamcpiaaDoorW.PrintMore

/-- No byte that ends an address. -/
def nb (x : UInt8) : Bool := !([32, 9, 10, 60] : List UInt8).contains x
theorem ia_tw (cs : List UInt8) : ∀ l : List UInt8, (0 ≤ Lib.indexAny l cs → Lib.indexAny l cs = ((l.takeWhile fun x => !cs.contains x).length : Int)) ∧ (Lib.indexAny l cs < 0 → (l.takeWhile fun x => !cs.contains x).length = l.length)
  | [] => by simp [Lib.indexAny]
  | x :: t => by
    obtain ⟨h1, h2⟩ := ia_tw cs t
    have hge := Lib.indexAny_ge cs t
    rw [Lib.indexAny, List.takeWhile_cons]
    by_cases hx : cs.contains x = true
    · rw [if_pos hx, if_neg (by rw [hx]; decide)]
      exact ⟨fun _ => rfl, fun h => absurd h (by decide)⟩
    · have hx' : (!cs.contains x) = true := by simpa using hx
      rw [if_neg hx, if_pos hx']
      by_cases hm : Lib.indexAny t cs = -1
      · rw [if_pos (by rw [hm]; rfl)]
        refine ⟨fun h => absurd h (by decide), fun _ => ?_⟩
        rw [List.length_cons, List.length_cons, h2 (by omega)]
      · rw [if_neg (by rw [beq_iff_eq]; exact hm)]
        refine ⟨fun h => ?_, fun h => absurd h (by omega)⟩
        rw [List.length_cons, h1 (by omega)]
        omega
def excT (l : List UInt8) : Nat := exc l (l.getLastD 0)
def tailGo (l : List UInt8) (at' : Nat) : Nat → Nat → Nat
  | 0, n => n
  | f + 1, n => if n > at' then (if excT (l.take n) = 0 then n else if n < at' + excT (l.take n) then n else tailGo l at' f (n - excT (l.take n))) else n
def stop (l : List UInt8) : Nat := (l.takeWhile nb).length
theorem stop_le (l : List UInt8) : stop l ≤ l.length := tw_le l
def tail (l : List UInt8) (at' : Nat) : Nat := tailGo l at' (at' + stop (l.drop at')) (at' + stop (l.drop at'))
theorem tailGo_le (l : List UInt8) (at' : Nat) : ∀ f n, at' ≤ n → at' ≤ tailGo l at' f n ∧ tailGo l at' f n ≤ n
  | 0, n, h => ⟨h, Nat.le_refl _⟩
  | f + 1, n, h => by
    unfold tailGo
    split
    · split
      · exact ⟨h, Nat.le_refl _⟩
      · split
        · exact ⟨h, Nat.le_refl _⟩
        · have := tailGo_le l at' f (n - excT (l.take n)) (by omega)
          omega
    · exact ⟨h, Nat.le_refl _⟩
theorem tail_le (l : List UInt8) (at' : Nat) : at' ≤ tail l at' ∧ tail l at' ≤ at' + stop (l.drop at') := tailGo_le l at' _ _ (by omega)
theorem tail_len (l : List UInt8) (at' : Nat) (h : at' ≤ l.length) : tail l at' ≤ l.length := by
  have h1 := (tail_le l at').2
  have h2 := stop_le (l.drop at')
  rw [List.length_drop] at h2
  omega
theorem tail_l (l : List UInt8) (at' : Nat) (hl : l.length ≤ 1073741824) : ∀ f n, n ≤ l.length → n ≤ f + at' → at' ≤ n → Ev (fun k => PA.auto_tail.l0 k (B l) (at' : Int) (n : Int)) ((tailGo l at' f n : Nat) : Int)
  | 0, n, h, hf, ha => by
    refine Ev.step (f := fun _ => some (n : Int)) (fun k => ?_) (Ev.now _)
    simp only [PA.auto_tail.l0]
    rw [if_neg (by omega)]
  | f + 1, n, h, hf, ha => by
    unfold tailGo
    by_cases h1 : n > at'
    · rw [if_pos h1]
      have hn : (l.take n).length = n := by rw [List.length_take]; omega
      have hne : 0 < (l.take n).length := by omega
      have hx := exc_ev (l.take n) (by omega) hne
      have hlast : (l.take n)[(l.take n).length - 1]'(by omega) = (l.take n).getLastD 0 := by
        rw [List.getLastD_eq_getLast?, List.getLast?_eq_getElem?, List.getElem?_eq_getElem (by omega)]
        rfl
      rw [hlast] at hx
      change Ev _ ((excT (l.take n) : Nat) : Int) at hx
      refine Ev.step (f := fun k => (PA.auto_excess.f k (B (l.take n))).bind fun t => if t = 0 then some (n : Int) else if wrap64 ((n : Int) - t) < (at' : Int) then some (n : Int) else PA.auto_tail.l0 k (B l) (at' : Int) (wrap64 ((n : Int) - t))) (fun k => ?_) ?_
      · simp only [PA.auto_tail.l0]
        rw [if_pos (by omega), if_pos (by omega), if_pos (by rw [B_size]; omega), Int.toNat_natCast, B_to]
      · refine Ev.bind hx ?_
        by_cases h2 : excT (l.take n) = 0
        · rw [if_pos h2]
          refine Ev.congr (fun k => ?_) (Ev.now _)
          rw [if_pos (by omega)]
        · rw [if_neg h2]
          have hexc : excT (l.take n) ≤ n := by
            have h5 := refer_le (l.take n)
            unfold excT exc
            rw [hn] at h5
            repeat' split
            all_goals omega
          have hw : wrap64 ((n : Int) - (excT (l.take n) : Int)) = (n : Int) - (excT (l.take n) : Int) := w64 (by omega) (by omega)
          by_cases h3 : n < at' + excT (l.take n)
          · rw [if_pos h3]
            refine Ev.congr (fun k => ?_) (Ev.now _)
            rw [if_neg (by omega), hw, if_pos (by omega)]
          · rw [if_neg h3]
            refine Ev.congr (fun k => ?_) (tail_l l at' hl f (n - excT (l.take n)) (by omega) (by omega) (by omega))
            rw [if_neg (by omega), hw, if_neg (by omega)]
            congr 1
            omega
    · rw [if_neg h1]
      refine Ev.step (f := fun _ => some (n : Int)) (fun k => ?_) (Ev.now _)
      simp only [PA.auto_tail.l0]
      rw [if_neg (by omega)]
theorem tail_ev (l : List UInt8) (at' : Nat) (hl : l.length ≤ 1073741824) (ha : at' ≤ l.length) : Ev (fun k => PA.auto_tail.f k (B l) (at' : Int)) ((tail l at' : Nat) : Int) := by
  have hst := stop_le (l.drop at')
  rw [List.length_drop] at hst
  have h0 := tail_l l at' hl (at' + stop (l.drop at')) (at' + stop (l.drop at')) (by omega) (by omega) (by omega)
  have hj : Ev (fun k => PA.auto_tail.j0 k (B l) (at' : Int) ((at' + stop (l.drop at') : Nat) : Int)) ((tail l at' : Nat) : Int) := Ev.step (fun k => rfl) h0
  have e1 : (B l).extract ((at' : Int)).toNat (B l).size = B (l.drop at') := B_from l _ _ (B_size l)
  have e2 : PA.strings_IndexAny.f (B (l.drop at')) ⟨#[32, 9, 10, 60]⟩ = some (Lib.indexAny (l.drop at') [32, 9, 10, 60]) := by
    unfold PA.strings_IndexAny.f
    rw [if_pos ⟨by decide, by decide, by rw [B_size, List.length_drop]; omega, by decide⟩, B_data]
  obtain ⟨k1, k2⟩ := ia_tw [32, 9, 10, 60] (l.drop at')
  change (0 ≤ _ → _ = ((stop (l.drop at') : Nat) : Int)) at k1
  change (_ → stop (l.drop at') = _) at k2
  unfold PA.auto_tail.f
  refine Ev.congr (fun k => ?_) hj
  rw [if_pos (by omega), if_pos (by rw [B_size]; omega), e1, e2, Option.bind_some]
  by_cases h : Lib.indexAny (l.drop at') [32, 9, 10, 60] ≥ 0
  · rw [if_pos h, k1 h, w64 (by omega) (by omega)]
    rfl
  · have := k2 (by omega)
    rw [List.length_drop] at this
    rw [if_neg h, B_size, show at' + stop (l.drop at') = l.length by omega]
/-- How many bytes a mailbox is. -/
def mailbox (l : List UInt8) : Nat :=
  if wl [46, 45, 95, 43] l = 0 then 0 else if (l.drop (wl [46, 45, 95, 43] l)).head? ≠ some 64 then 0
  else if host (l.drop (wl [46, 45, 95, 43] l + 1)) = 0 then 0
  else if ([45, 95] : List UInt8).contains (l.getD (wl [46, 45, 95, 43] l + host (l.drop (wl [46, 45, 95, 43] l + 1))) 0) = true then 0
  else wl [46, 45, 95, 43] l + 1 + host (l.drop (wl [46, 45, 95, 43] l + 1))
theorem pre_f (l p : List UInt8) : PA.strings_HasPrefix.f (B l) (B p) = some (p.isPrefixOf l) := by
  unfold PA.strings_HasPrefix.f Lib.hasPrefix
  rw [B_data, B_data]
theorem mail_ev (l : List UInt8) (hl : l.length ≤ 1073741824) : Ev (fun k => PA.auto_mailbox.f k (B l)) ((mailbox l : Nat) : Int) := by
  have h1 := wl_le [46, 45, 95, 43] l
  unfold PA.auto_mailbox.f mailbox
  refine Ev.bind (while_ev l [46, 45, 95, 43] hl) ?_
  generalize wl [46, 45, 95, 43] l = k at *
  have hjt : ∀ c : Int, Ev (fun n => PA.auto_mailbox.j0 n (B l) c true) 0 := fun c => Ev.step (f := fun _ => some 0) (fun n => by simp only [PA.auto_mailbox.j0, if_true]) (Ev.now _)
  by_cases hk : k = 0
  · rw [if_pos hk]
    refine Ev.congr (fun n => ?_) (hjt (k : Int))
    rw [if_pos (by omega)]
  · rw [if_neg hk]
    have e1 : (B l).extract ((k : Int)).toNat (B l).size = B (l.drop k) := B_from l _ _ (B_size l)
    have e2 : PA.strings_HasPrefix.f (B (l.drop k)) ⟨#[64]⟩ = some (([64] : List UInt8).isPrefixOf (l.drop k)) := pre_f (l.drop k) [64]
    by_cases ha : (l.drop k).head? = some 64
    · rw [if_neg (by simpa using ha)]
      have hkl : k < l.length := by
        rcases Nat.lt_or_ge k l.length with h | h
        · exact h
        · rw [List.drop_eq_nil_of_le h] at ha; cases ha
      have hp : ([64] : List UInt8).isPrefixOf (l.drop k) = true := by
        cases hd : l.drop k with
        | nil => rw [hd] at ha; cases ha
        | cons x t => rw [hd] at ha; simp at ha; subst ha; rfl
      have hh := host_le (l.drop (k + 1))
      rw [List.length_drop] at hh
      have hhev := host_ev (l.drop (k + 1)) (by rw [List.length_drop]; omega)
      generalize host (l.drop (k + 1)) = h at *
      refine Ev.congr (f := fun n => PA.auto_mailbox.j0 n (B l) (k : Int) false) (fun n => ?_) ?_
      · rw [if_neg (by omega), if_pos (by omega), if_pos (by rw [B_size]; omega), e1, e2, Option.bind_some, hp]
        rfl
      · have e3 : (B l).extract (wrap64 ((k : Int) + 1)).toNat (B l).size = B (l.drop (k + 1)) := by
          rw [w64 (by omega) (by omega)]
          exact B_from l _ _ (B_size l)
        refine Ev.step (f := fun n => (PA.auto_host.f n (B (l.drop (k + 1)))).bind fun t124 => (if t124 = 0 then (some 0) else (if 0 ≤ (wrap64 ((k : Int) + t124)) then (if (wrap64 ((k : Int) + t124)) < ((B l).size : Int) then ((PA.strings_IndexByte.f (⟨#[45, 95]⟩ : ByteArray) (bt (B l) (wrap64 ((k : Int) + t124)))).bind fun t125 => (if t125 ≥ 0 then (some 0) else (some (wrap64 ((wrap64 ((k : Int) + 1)) + t124))))) else (none)) else (none)))) (fun n => ?_) ?_
        · simp only [PA.auto_mailbox.j0]
          rw [if_neg (by decide), if_pos (by rw [w64 (by omega) (by omega)]; omega), if_pos (by rw [B_size, w64 (by omega) (by omega)]; omega), e3]
        · refine Ev.bind hhev ?_
          by_cases h0 : h = 0
          · rw [if_pos h0]
            refine Ev.congr (fun n => ?_) (Ev.now _)
            rw [if_pos (by omega)]
            rfl
          · rw [if_neg h0]
            have q1 : wrap64 ((k : Int) + (h : Int)) = ((k + h : Nat) : Int) := w64 (by omega) (by omega)
            have q2 : wrap64 ((k : Int) + 1) = ((k + 1 : Nat) : Int) := w64 (by omega) (by omega)
            have hb : bt (B l) ((k + h : Nat) : Int) = ((l.getD (k + h) 0).toNat : Int) := by
              rw [B_bt l (k + h) (by omega), List.getD_eq_getElem?_getD, List.getElem?_eq_getElem (by omega)]
              rfl
            have hi : PA.strings_IndexByte.f (⟨#[45, 95]⟩ : ByteArray) ((l.getD (k + h) 0).toNat : Int) = some (Lib.indexByte [45, 95] (l.getD (k + h) 0)) := idx_f [45, 95] _
            have hif := ib_iff [45, 95] (l.getD (k + h) 0)
            refine Ev.congr (f := fun _ => some (if ([45, 95] : List UInt8).contains (l.getD (k + h) 0) = true then (0 : Int) else ((k + 1 + h : Nat) : Int))) (fun n => ?_) ?_
            · rw [if_neg (by omega), q1, if_pos (by omega), if_pos (by rw [B_size]; omega), hb, hi, Option.bind_some]
              by_cases hc : ([45, 95] : List UInt8).contains (l.getD (k + h) 0) = true
              · rw [if_pos (hif.2 hc), if_pos hc]
              · rw [if_neg (fun e => hc (hif.1 e)), if_neg hc, q2, w64 (by omega) (by omega)]
                rfl
            · have : ((if ([45, 95] : List UInt8).contains (l.getD (k + h) 0) = true then 0 else k + 1 + h : Nat) : Int) = if ([45, 95] : List UInt8).contains (l.getD (k + h) 0) = true then (0 : Int) else ((k + 1 + h : Nat) : Int) := by split <;> rfl
              rw [this]
              exact Ev.now _
    · rw [if_pos (by simpa using ha)]
      have hp : ([64] : List UInt8).isPrefixOf (l.drop k) = false := by
        cases hd : l.drop k with
        | nil => rfl
        | cons x t =>
          rw [hd] at ha
          simp only [List.head?_cons, Option.some.injEq] at ha
          simp only [List.isPrefixOf, Bool.and_true, beq_eq_false_iff_ne]
          exact fun e => ha e.symm
      refine Ev.congr (fun n => ?_) (hjt (k : Int))
      rw [if_neg (by omega), if_pos (by omega), if_pos (by rw [B_size]; omega), e1, e2, Option.bind_some, hp]
      rfl
end Go.Proofs.YtddmddlaamcpiaaDoor.Pl

namespace Go.Proofs.YtddmddlaamcpiaaDoor.Pl
open Go.RowKit Go.Proofs.YtddmddlaamcpiaaDoorW.PrintWords Go.Proofs.YtddmddlaamcpiaaDoorW.PrintMore

def www : List UInt8 := [119, 119, 119, 46]
def http : List UInt8 := [104, 116, 116, 112, 58, 47, 47]
def https : List UInt8 := [104, 116, 116, 112, 115, 58, 47, 47]
def mailto : List UInt8 := [109, 97, 105, 108, 116, 111, 58]
/-- Behind a scheme. -/
def scheme (p l : List UInt8) : Option (List UInt8 × Nat) :=
  if p.isPrefixOf l = true ∧ 0 < host (l.drop p.length) then some (l.take (tail l (p.length + host (l.drop p.length))), tail l (p.length + host (l.drop p.length))) else none
def oneM (l : List UInt8) : List UInt8 × Nat := if mailbox l = 0 then ([], 0) else (mailto ++ l.take (mailbox l), mailbox l)
def oneS (l : List UInt8) : List UInt8 × Nat := ((scheme http l).or (scheme https l)).getD (oneM l)
def one (l : List UInt8) : List UInt8 × Nat := if www.isPrefixOf l = true ∧ 4 < host l then (http ++ l.take (tail l (host l)), tail l (host l)) else oneS l
theorem mailbox_le (l : List UInt8) : mailbox l ≤ l.length := by
  have h1 := wl_le [46, 45, 95, 43] l
  have h2 := host_le (l.drop (wl [46, 45, 95, 43] l + 1))
  rw [List.length_drop] at h2
  unfold mailbox
  by_cases h : (l.drop (wl [46, 45, 95, 43] l)).head? ≠ some 64
  · rw [if_pos h]
    split <;> omega
  · rw [if_neg h]
    have hk : wl [46, 45, 95, 43] l < l.length := by
      rcases Nat.lt_or_ge (wl [46, 45, 95, 43] l) l.length with h5 | h5
      · exact h5
      · rw [List.drop_eq_nil_of_le h5] at h
        exact absurd (fun e => by cases e) h
    repeat' split
    all_goals omega
theorem isP_len {p l : List UInt8} (h : p.isPrefixOf l = true) : p.length ≤ l.length := by
  rw [List.isPrefixOf_iff_prefix] at h
  exact h.length_le
theorem scheme_some {p l : List UInt8} {r : List UInt8 × Nat} (h : scheme p l = some r) : p.isPrefixOf l = true ∧ 0 < host (l.drop p.length) ∧ r = (l.take (tail l (p.length + host (l.drop p.length))), tail l (p.length + host (l.drop p.length))) := by
  by_cases hc : p.isPrefixOf l = true ∧ 0 < host (l.drop p.length)
  · rw [scheme, if_pos hc] at h
    exact ⟨hc.1, hc.2, (Option.some.inj h).symm⟩
  · rw [scheme, if_neg hc] at h
    cases h
theorem scheme_le {p l : List UInt8} {r : List UInt8 × Nat} (h : scheme p l = some r) : r.2 ≤ l.length := by
  obtain ⟨h1, h3, h4⟩ := scheme_some h
  have h1 := isP_len h1
  have h2 := host_le (l.drop p.length)
  rw [List.length_drop] at h2
  have h5 := tail_len l (p.length + host (l.drop p.length)) (by omega)
  rw [h4]
  dsimp only
  exact h5
theorem one_le (l : List UInt8) : (one l).2 ≤ l.length := by
  have h1 := host_le l
  unfold one
  by_cases hc : www.isPrefixOf l = true ∧ 4 < host l
  · rw [if_pos hc]
    dsimp only
    exact tail_len l _ h1
  · rw [if_neg hc]
    unfold oneS
    cases hs : scheme http l with
    | some r => exact scheme_le hs
    | none =>
      cases hs2 : scheme https l with
      | some r => exact scheme_le hs2
      | none =>
        show (oneM l).2 ≤ _
        unfold oneM
        split
        · exact Nat.zero_le _
        · exact mailbox_le l
def rB (r : List UInt8 × Nat) : ByteArray × Int := (B r.1, (r.2 : Int))
theorem oneM_ev (l : List UInt8) (hl : l.length ≤ 1073741824) (ps : List ByteArray) (i : Int) (hi : (ps.length : Int) ≤ i) : Ev (fun k => PA.auto_one.l0 k (B l) ps (ps.length : Int) i) (rB (oneM l)) := by
  have hm := mailbox_le l
  refine Ev.step (f := fun k => (PA.auto_mailbox.f k (B l)).bind fun t132 => (if t132 = 0 then (some ((⟨#[]⟩ : ByteArray), 0)) else (if 0 ≤ t132 then (if t132 ≤ ((B l).size : Int) then (if 7 + ((B l).extract 0 (t132 : Int).toNat).size ≤ 9223372036854775807 then (some ((⟨#[109, 97, 105, 108, 116, 111, 58]⟩ : ByteArray) ++ ((B l).extract 0 (t132 : Int).toNat), t132)) else (none)) else (none)) else (none)))) (fun k => ?_) ?_
  · simp only [PA.auto_one.l0]
    rw [if_neg (by omega)]
  · refine Ev.bind (mail_ev l hl) ?_
    refine Ev.congr (f := fun _ => some (rB (oneM l))) (fun _ => ?_) (Ev.now _)
    unfold oneM
    by_cases h : mailbox l = 0
    · rw [if_pos (by omega), if_pos h]
      rfl
    · rw [if_neg (by omega), if_pos (by omega), if_pos (by rw [B_size]; omega), Int.toNat_natCast, B_to, if_pos (by rw [B_size, List.length_take]; omega), if_neg h]
      rw [show (⟨#[109, 97, 105, 108, 116, 111, 58]⟩ : ByteArray) ++ B (l.take (mailbox l)) = B (mailto ++ l.take (mailbox l)) from B_append mailto _]
      rfl
/-- One scheme's turn. -/
theorem scheme_ev (l : List UInt8) (hl : l.length ≤ 1073741824) (ps : List ByteArray) (i : Nat) (p : List UInt8) (hp : ps[i]? = some (B p)) (hps : ps.length ≤ 2) (r : ByteArray × Int)
    (hn : scheme p l = none → Ev (fun k => PA.auto_one.l0 k (B l) ps (ps.length : Int) ((i + 1 : Nat) : Int)) r) (hs : ∀ x, scheme p l = some x → r = rB x) : Ev (fun k => PA.auto_one.l0 k (B l) ps (ps.length : Int) (i : Int)) r := by
  obtain ⟨hi, hpi⟩ := List.getElem?_eq_some_iff.1 hp
  have hg := getD_at ps i hi
  rw [hpi] at hg
  have hcut : PA.strings_CutPrefix.f (B l) (B p) = some (B (Lib.trimPrefix l p), p.isPrefixOf l) := by
    unfold PA.strings_CutPrefix.f Lib.hasPrefix
    rw [B_data, B_data]
    rfl
  have hstep : ∀ k, PA.auto_one.l0 (k + 1) (B l) ps (ps.length : Int) (i : Int) = if p.isPrefixOf l = true then ((PA.auto_host.f k (B (Lib.trimPrefix l p))).bind fun t136 => (if t136 > 0 then ((PA.auto_tail.f k (B l) (wrap64 ((p.length : Int) + t136))).bind fun t137 => (if 0 ≤ t137 then (if t137 ≤ ((B l).size : Int) then (some ((B l).extract 0 (t137 : Int).toNat, t137)) else (none)) else (none))) else PA.auto_one.l0 k (B l) ps (ps.length : Int) ((i + 1 : Nat) : Int))) else PA.auto_one.l0 k (B l) ps (ps.length : Int) ((i + 1 : Nat) : Int) := by
    intro k
    simp only [PA.auto_one.l0]
    rw [if_pos (by omega), if_pos (by omega), if_pos (by omega), hg, hcut, Option.bind_some, B_size, w64 (x := (i : Int) + 1) (by omega) (by omega)]
    rfl
  by_cases hpre : p.isPrefixOf l = true
  · have htp : Lib.trimPrefix l p = l.drop p.length := by unfold Lib.trimPrefix Lib.hasPrefix; rw [if_pos hpre]
    have hlen := isP_len hpre
    have hh := host_le (l.drop p.length)
    rw [List.length_drop] at hh
    refine Ev.step (f := fun k => (PA.auto_host.f k (B (l.drop p.length))).bind fun t136 => (if t136 > 0 then ((PA.auto_tail.f k (B l) (wrap64 ((p.length : Int) + t136))).bind fun t137 => (if 0 ≤ t137 then (if t137 ≤ ((B l).size : Int) then (some ((B l).extract 0 (t137 : Int).toNat, t137)) else (none)) else (none))) else PA.auto_one.l0 k (B l) ps (ps.length : Int) ((i + 1 : Nat) : Int))) (fun k => by rw [hstep, if_pos hpre, htp]) ?_
    refine Ev.bind (host_ev _ (by rw [List.length_drop]; omega)) ?_
    by_cases h0 : 0 < host (l.drop p.length)
    · have hsc : scheme p l = some (l.take (tail l (p.length + host (l.drop p.length))), tail l (p.length + host (l.drop p.length))) := by unfold scheme; rw [if_pos ⟨hpre, h0⟩]
      rw [hs _ hsc]
      have htl := tail_len l (p.length + host (l.drop p.length)) (by omega)
      have hte := tail_ev l (p.length + host (l.drop p.length)) hl (by omega)
      generalize host (l.drop p.length) = hh0 at *
      refine Ev.congr (f := fun k => (PA.auto_tail.f k (B l) ((p.length + hh0 : Nat) : Int)).bind fun t137 => (if 0 ≤ t137 then (if t137 ≤ ((B l).size : Int) then (some ((B l).extract 0 (t137 : Int).toNat, t137)) else (none)) else (none))) (fun k => ?_) ?_
      · rw [if_pos (by omega), w64 (by omega) (by omega)]
        rfl
      · refine Ev.bind hte ?_
        refine Ev.congr (fun _ => ?_) (Ev.now _)
        rw [if_pos (by omega), if_pos (by rw [B_size]; omega), Int.toNat_natCast, B_to]
        rfl
    · refine Ev.congr (fun k => ?_) (hn (by unfold scheme; rw [if_neg (fun e => h0 e.2)]))
      rw [if_neg (by omega)]
  · refine Ev.step (fun k => ?_) (hn (by unfold scheme; rw [if_neg (fun e => hpre e.1)]))
    rw [hstep, if_neg hpre]
theorem oneS_ev (l : List UInt8) (hl : l.length ≤ 1073741824) : Ev (fun k => PA.auto_one.j0 k (B l)) (rB (oneS l)) := by
  refine Ev.step (f := fun k => PA.auto_one.l0 k (B l) [B http, B https] (([B http, B https].length : Nat) : Int) ((0 : Nat) : Int)) (fun k => rfl) ?_
  refine scheme_ev l hl [B http, B https] 0 http rfl (by decide) _ (fun h0 => ?_) (fun x hx => by unfold oneS; rw [hx]; rfl)
  refine scheme_ev l hl [B http, B https] 1 https rfl (by decide) _ (fun h1 => ?_) (fun x hx => by unfold oneS; rw [h0, hx]; rfl)
  have := oneM_ev l hl [B http, B https] ((1 + 1 : Nat) : Int) (by decide)
  unfold oneS
  rw [h0, h1]
  exact this
theorem one_ev (l : List UInt8) (hl : l.length ≤ 1073741824) : Ev (fun k => PA.auto_one.f k (B l)) (rB (one l)) := by
  have hh := host_le l
  unfold PA.auto_one.f one
  have e1 : PA.strings_HasPrefix.f (B l) (⟨#[119, 119, 119, 46]⟩ : ByteArray) = some (www.isPrefixOf l) := pre_f l www
  by_cases hw : www.isPrefixOf l = true
  · refine Ev.congr (f := fun k => (PA.auto_host.f k (B l)).bind fun t127 => (if t127 > 4 then ((PA.auto_tail.f k (B l) t127).bind fun t128 => (if 0 ≤ t128 then (if t128 ≤ ((B l).size : Int) then (if 7 + ((B l).extract 0 (t128 : Int).toNat).size ≤ 9223372036854775807 then (some ((⟨#[104, 116, 116, 112, 58, 47, 47]⟩ : ByteArray) ++ ((B l).extract 0 (t128 : Int).toNat), t128)) else (none)) else (none)) else (none))) else (PA.auto_one.j0 k (B l)))) (fun k => by rw [e1, Option.bind_some, if_pos hw]) ?_
    refine Ev.bind (host_ev l hl) ?_
    by_cases h4 : 4 < host l
    · rw [if_pos ⟨hw, h4⟩]
      have htl := tail_len l (host l) hh
      refine Ev.congr (f := fun k => (PA.auto_tail.f k (B l) ((host l : Nat) : Int)).bind fun t128 => (if 0 ≤ t128 then (if t128 ≤ ((B l).size : Int) then (if 7 + ((B l).extract 0 (t128 : Int).toNat).size ≤ 9223372036854775807 then (some ((⟨#[104, 116, 116, 112, 58, 47, 47]⟩ : ByteArray) ++ ((B l).extract 0 (t128 : Int).toNat), t128)) else (none)) else (none)) else (none))) (fun k => by rw [if_pos (by omega)]) ?_
      refine Ev.bind (tail_ev l (host l) hl hh) ?_
      refine Ev.congr (fun _ => ?_) (Ev.now _)
      rw [if_pos (by omega), if_pos (by rw [B_size]; omega), Int.toNat_natCast, B_to, if_pos (by rw [B_size, List.length_take]; omega)]
      rw [show (⟨#[104, 116, 116, 112, 58, 47, 47]⟩ : ByteArray) ++ B (l.take (tail l (host l))) = B (http ++ l.take (tail l (host l))) from B_append http _]
      rfl
    · rw [if_neg (fun e => h4 e.2)]
      refine Ev.congr (fun k => ?_) (oneS_ev l hl)
      rw [if_neg (by omega)]
  · rw [if_neg (fun e => hw e.1)]
    refine Ev.congr (fun k => ?_) (oneS_ev l hl)
    rw [e1, Option.bind_some, if_neg hw]
/-- What may stand ahead of an address. -/
def ahd (x : UInt8) : Bool := ([32, 9, 10, 42, 95, 126, 40] : List UInt8).contains x
/-- A text's addresses: where, and to where they lead; 'ok': one may begin here. -/
def fd : Nat → Bool → Nat → List UInt8 → List (Nat × Nat × List UInt8)
  | 0, _, _, _ => []
  | _ + 1, _, _, [] => []
  | f + 1, ok, i, x :: t =>
    if ok = false ∨ (one (x :: t)).2 = 0 then fd f (ahd x) (i + 1) t
    else (i, i + (one (x :: t)).2, (one (x :: t)).1) :: fd f (ahd ((x :: t).getD ((one (x :: t)).2 - 1) 0)) (i + (one (x :: t)).2) ((x :: t).drop (one (x :: t)).2)
def toS (x : Nat × Nat × List UInt8) : PA.S26 := ⟨(x.1 : Int), (x.2.1 : Int), B x.2.2⟩
def okAt (l : List UInt8) (i : Nat) : Bool := decide (i = 0) || ahd (l.getD (i - 1) 0)
theorem find_l (l : List UInt8) (hl : l.length ≤ 1073741824) : ∀ (f i : Nat) (acc : List PA.S26), i + f = l.length → acc.length ≤ i → ∀ g, l.length - i ≤ g → Ev (fun k => PA.auto_Find.l0 k (B l) acc (i : Int)) (acc ++ (fd g (okAt l i) i (l.drop i)).map toS) := by
  intro f
  induction f using Nat.strongRecOn with
  | ind f ih =>
    intro i acc hi ha g hg
    by_cases h0 : i = l.length
    · subst h0
      rw [List.drop_length]
      refine Ev.step (f := fun _ => some acc) (fun k => ?_) (by cases g <;> (simp only [fd, List.map_nil, List.append_nil]; exact Ev.now _))
      simp only [PA.auto_Find.l0]
      rw [if_neg (by rw [B_size]; omega)]
    · have hil : i < l.length := by omega
      obtain ⟨g, rfl⟩ : ∃ g', g = g' + 1 := ⟨g - 1, by omega⟩
      have hdr : l.drop i = l[i] :: l.drop (i + 1) := List.drop_eq_getElem_cons hil
      have hok1 : okAt l (i + 1) = ahd l[i] := by
        unfold okAt
        rw [decide_eq_false (by omega), Bool.false_or, Nat.add_sub_cancel, List.getD_eq_getElem?_getD, List.getElem?_eq_getElem hil]
        rfl
      have hnext := ih (f - 1) (by omega) (i + 1) acc (by omega) (by omega) g (by omega)
      rw [hok1] at hnext
      have hj1 : ∀ b : Bool, b = !(okAt l i) → Ev (fun k => PA.auto_Find.j1 k (B l) acc (i : Int) b) (acc ++ (fd (g + 1) (okAt l i) i (l.drop i)).map toS) := by
        intro b hb
        cases hoki : okAt l i with
        | false =>
          rw [hoki] at hb
          subst hb
          rw [hdr, fd, if_pos (.inl rfl)]
          refine Ev.step (fun k => ?_) hnext
          simp only [PA.auto_Find.j1]
          rw [if_pos (show (!false) = true from rfl), w64 (by omega) (by omega)]
          rfl
        | true =>
          rw [hoki] at hb
          subst hb
          have hle := one_le (l.drop i)
          rw [List.length_drop] at hle
          have hone := one_ev (l.drop i) (by rw [List.length_drop]; omega)
          have e1 : (B l).extract ((i : Int)).toNat (B l).size = B (l.drop i) := B_from l _ _ (B_size l)
          refine Ev.step (f := fun k => (PA.auto_one.f k (B (l.drop i))).bind fun bt139 => (if bt139.2 = 0 then (PA.auto_Find.l0 k (B l) acc (wrap64 ((i : Int) + 1))) else (if acc.length < 4398046511104 then (PA.auto_Find.l0 k (B l) (acc ++ [(⟨(i : Int), wrap64 ((i : Int) + bt139.2), bt139.1⟩ : PA.S26)]) (wrap64 ((i : Int) + bt139.2))) else (none)))) (fun k => ?_) ?_
          · simp only [PA.auto_Find.j1]
            rw [if_neg (by decide), if_pos (by omega), if_pos (by rw [B_size]; omega), e1]
          · refine Ev.bind hone ?_
            rw [hdr] at hle ⊢
            rw [fd]
            generalize hon : one (l[i] :: l.drop (i + 1)) = r at *
            by_cases hn : r.2 = 0
            · rw [if_pos (.inr hn)]
              refine Ev.congr (fun k => ?_) hnext
              rw [if_pos (by show (r.2 : Int) = 0; omega), w64 (by omega) (by omega)]
              rfl
            · rw [if_neg (by rintro (h | h); cases h; exact hn h)]
              have hn2 := ih (f - r.2) (by omega) (i + r.2) (acc ++ [toS (i, i + r.2, r.1)]) (by omega) (by rw [List.length_append, List.length_singleton]; omega) g (by omega)
              have hokn : okAt l (i + r.2) = ahd ((l[i] :: l.drop (i + 1)).getD (r.2 - 1) 0) := by
                unfold okAt
                rw [decide_eq_false (by omega), Bool.false_or, ← hdr, List.getD_eq_getElem?_getD, List.getD_eq_getElem?_getD, List.getElem?_drop, show i + r.2 - 1 = i + (r.2 - 1) by omega]
              have hdn : l.drop (i + r.2) = (l[i] :: l.drop (i + 1)).drop r.2 := by rw [← hdr, List.drop_drop]
              rw [hokn, hdn, List.append_assoc] at hn2
              refine Ev.congr (fun k => ?_) hn2
              rw [if_neg (by show ¬ (r.2 : Int) = 0; omega), if_pos (by omega), show (rB r).2 = (r.2 : Int) from rfl, w64 (by omega) (by omega)]
              rfl
      by_cases hi0 : i = 0
      · have hok : okAt l i = true := by unfold okAt; rw [decide_eq_true hi0, Bool.true_or]
        refine Ev.step (fun k => ?_) (hj1 false (by rw [hok]; rfl))
        simp only [PA.auto_Find.l0]
        rw [if_pos (by rw [B_size]; omega), if_neg (by omega)]
      · have hg0 : l.getD (i - 1) 0 = l[i - 1]'(by omega) := by rw [List.getD_eq_getElem?_getD, List.getElem?_eq_getElem (by omega)]; rfl
        have hok : okAt l i = ahd (l[i - 1]'(by omega)) := by unfold okAt; rw [decide_eq_false hi0, Bool.false_or, hg0]
        have e2 : wrap64 ((i : Int) - 1) = ((i - 1 : Nat) : Int) := by rw [w64 (by omega) (by omega)]; omega
        have e3 : PA.strings_IndexByte.f (⟨#[32, 9, 10, 42, 95, 126, 40]⟩ : ByteArray) ((l[i - 1]'(by omega)).toNat : Int) = some (Lib.indexByte [32, 9, 10, 42, 95, 126, 40] (l[i - 1]'(by omega))) := idx_f _ _
        have e4 := ib_iff [32, 9, 10, 42, 95, 126, 40] (l[i - 1]'(by omega))
        refine Ev.step (fun k => ?_) (hj1 (decide (Lib.indexByte [32, 9, 10, 42, 95, 126, 40] (l[i - 1]'(by omega)) < 0)) ?_)
        · simp only [PA.auto_Find.l0]
          rw [if_pos (by rw [B_size]; omega), if_pos (by omega), e2, if_pos (by omega), if_pos (by rw [B_size]; omega), B_bt l (i - 1) (by omega), e3, Option.bind_some]
        · rw [hok]
          unfold ahd
          cases hc : ([32, 9, 10, 42, 95, 126, 40] : List UInt8).contains (l[i - 1]'(by omega)) with
          | true => exact decide_eq_false (by have := e4.2 hc; omega)
          | false => exact decide_eq_true (by
              by_cases h : 0 ≤ Lib.indexByte [32, 9, 10, 42, 95, 126, 40] (l[i - 1]'(by omega))
              · have := e4.1 h; rw [hc] at this; cases this
              · omega)
def adr (l : List UInt8) : List (Nat × Nat × List UInt8) := fd l.length true 0 l
theorem find_ev (l : List UInt8) (hl : l.length ≤ 1073741824) : Ev (fun k => PA.auto_Find.f k (B l)) ((adr l).map toS) := by
  have := find_l l hl l.length 0 [] (by omega) (by simp) l.length (by omega)
  rw [List.drop_zero, List.nil_append] at this
  exact this
theorem awake_ev : Ev (fun k => PA.incipitlaw17_awake.f k) true := Ev.of (fun k => PA.incipitlaw17_awake.mono k) (k := 60) (by decide +kernel)
end Go.Proofs.YtddmddlaamcpiaaDoor.Pl

namespace Go.Proofs.YtddmddlaamcpiaaDoor.Pl
open Go.RowKit Go.Proofs.YtddmddlaamcpiaaDoorW.PrintWords Go.Proofs.YtddmddlaamcpiaaDoorW.PrintMore

end Go.Proofs.YtddmddlaamcpiaaDoor.Pl

namespace Go.Proofs.YtddmddlaamcpiaaDoor.Pl
open Go.RowKit Go.Proofs.YtddmddlaamcpiaaDoorW.PrintWords Go.Proofs.YtddmddlaamcpiaaDoorW.PrintMore

theorem tw_all (p : UInt8 → Bool) : ∀ (l : List UInt8) (n : Nat), n ≤ (l.takeWhile p).length → ∀ x ∈ l.take n, p x = true
  | [], n, _ => by simp
  | a :: t, 0, _ => by simp
  | a :: t, n + 1, h => by
    rw [List.takeWhile_cons] at h
    by_cases ha : p a = true
    · rw [if_pos ha, List.length_cons] at h
      intro x hx
      rw [List.take_succ_cons] at hx
      rcases List.mem_cons.1 hx with rfl | hx
      · exact ha
      · exact tw_all p t n (by omega) x hx
    · rw [if_neg ha, List.length_nil] at h
      omega
theorem mem_nb {m : List UInt8} (hm : ∀ x ∈ m, nb x = true) {x : UInt8} (h : (wd x || m.contains x) = true) : nb x = true := by
  have hw : ∀ y : Fin 256, wd (UInt8.ofNat y.val) = true → nb (UInt8.ofNat y.val) = true := by decide +kernel
  rw [Bool.or_eq_true] at h
  rcases h with h | h
  · have h0 := hw ⟨x.toNat, x.toNat_lt⟩
    rw [show UInt8.ofNat x.toNat = x from UInt8.ofNat_toNat] at h0
    exact h0 h
  · rw [List.contains_iff_mem] at h
    exact hm x h
theorem wl_nb (m l : List UInt8) (hm : ∀ x ∈ m, nb x = true) (n : Nat) (h : n ≤ wl m l) : ∀ x ∈ l.take n, nb x = true := fun x hx => mem_nb hm (tw_all _ l n h x hx)
theorem host_wl (l : List UInt8) : host l ≤ wl [45, 95, 46] l := by
  have := hostT_le l
  unfold host
  split <;> omega
theorem host_nb (l : List UInt8) : ∀ x ∈ l.take (host l), nb x = true := wl_nb _ l (by decide) _ (host_wl l)
theorem tail_nb (l : List UInt8) (at' : Nat) (h : ∀ x ∈ l.take at', nb x = true) : ∀ x ∈ l.take (tail l at'), nb x = true := by
  obtain ⟨h1, h2⟩ := tail_le l at'
  intro x hx
  have e : tail l at' = at' + (tail l at' - at') := by omega
  rw [e, List.take_add, List.mem_append] at hx
  rcases hx with hx | hx
  · exact h x hx
  · exact tw_all nb (l.drop at') _ (by show _ ≤ stop _; omega) x hx
/-- What is found is whole. -/
structure Whole (l d : List UInt8) (n : Nat) : Prop where
  three : 3 ≤ n
  len : n ≤ l.length
  nbs : ∀ x ∈ l.take n, nb x = true
  dest : d = l.take n ∨ d = http ++ l.take n ∨ d = mailto ++ l.take n
theorem scheme_whole {p l : List UInt8} {r : List UInt8 × Nat} (hp : 2 ≤ p.length) (hpn : ∀ x ∈ p, nb x = true) (h : scheme p l = some r) : Whole l r.1 r.2 := by
  have hle := scheme_le h
  obtain ⟨h1, h2, h3⟩ := scheme_some h
  have hl := isP_len h1
  rw [h3] at hle ⊢
  dsimp only at hle ⊢
  have htl := (tail_le l (p.length + host (l.drop p.length))).1
  refine ⟨by omega, hle, tail_nb l _ ?_, .inl rfl⟩
  intro x hx
  rw [List.take_add, List.mem_append] at hx
  rcases hx with hx | hx
  · rw [List.isPrefixOf_iff_prefix] at h1
    rw [List.prefix_iff_eq_take] at h1
    rw [← h1] at hx
    exact hpn x hx
  · exact host_nb _ x hx
theorem mail_whole (l : List UInt8) (h : mailbox l ≠ 0) : 3 ≤ mailbox l ∧ ∀ x ∈ l.take (mailbox l), nb x = true := by
  have hw := wl_nb [46, 45, 95, 43] l (by decide) (wl [46, 45, 95, 43] l) (Nat.le_refl _)
  unfold mailbox at h ⊢
  generalize wl [46, 45, 95, 43] l = k at *
  by_cases h0 : k = 0
  · rw [if_pos h0] at h; exact absurd rfl h
  · rw [if_neg h0] at h ⊢
    by_cases h1 : (l.drop k).head? ≠ some 64
    · rw [if_pos h1] at h; exact absurd rfl h
    · rw [if_neg h1] at h ⊢
      have hn := host_nb (l.drop (k + 1))
      generalize host (l.drop (k + 1)) = m at *
      by_cases h2 : m = 0
      · rw [if_pos h2] at h; exact absurd rfl h
      · rw [if_neg h2] at h ⊢
        by_cases h3 : ([45, 95] : List UInt8).contains (l.getD (k + m) 0) = true
        · rw [if_pos h3] at h; exact absurd rfl h
        · rw [if_neg h3]
          refine ⟨by omega, fun x hx => ?_⟩
          rw [List.take_add, List.mem_append, List.take_add, List.mem_append] at hx
          rcases hx with (hx | hx) | hx
          · exact hw x hx
          · have h4 : (l.drop k).head? = some 64 := Classical.byContradiction h1
            cases hd : l.drop k with
            | nil => rw [hd] at h4; cases h4
            | cons y t =>
              rw [hd] at h4 hx
              have : y = 64 := Option.some.inj h4
              simp at hx
              subst hx
              subst this
              decide
          · exact hn x hx
theorem one_whole (l : List UInt8) (h : (one l).2 ≠ 0) : Whole l (one l).1 (one l).2 := by
  have hle := one_le l
  have hh := host_le l
  by_cases hc : www.isPrefixOf l = true ∧ 4 < host l
  · have e : one l = (http ++ l.take (tail l (host l)), tail l (host l)) := by rw [one, if_pos hc]
    rw [e] at hle ⊢
    dsimp only at hle ⊢
    have htl := (tail_le l (host l)).1
    exact ⟨by omega, hle, tail_nb l _ (host_nb l), .inr (.inl rfl)⟩
  · have e : one l = oneS l := by rw [one, if_neg hc]
    rw [e] at hle h ⊢
    unfold oneS at hle h ⊢
    cases h1 : scheme http l with
    | some r => exact scheme_whole (by decide) (by decide) h1
    | none =>
      rw [h1] at hle h
      cases h2 : scheme https l with
      | some r => exact scheme_whole (by decide) (by decide) h2
      | none =>
        rw [h2] at hle h
        change (oneM l).2 ≠ 0 at h
        change (oneM l).2 ≤ _ at hle
        show Whole l (oneM l).1 (oneM l).2
        by_cases h3 : mailbox l = 0
        · rw [oneM, if_pos h3] at h
          exact absurd rfl h
        · have e2 : oneM l = (mailto ++ l.take (mailbox l), mailbox l) := by rw [oneM, if_neg h3]
          rw [e2] at hle ⊢
          dsimp only at hle ⊢
          obtain ⟨k1, k2⟩ := mail_whole l h3
          exact ⟨k1, hle, k2, .inr (.inr rfl)⟩
/-- Addresses lie apart, rising, within the text. -/
def Apart (s : List UInt8) : Nat → List (Nat × Nat × List UInt8) → Prop
  | _, [] => True
  | at', x :: t => at' ≤ x.1 ∧ Whole (s.drop x.1) x.2.2 (x.2.1 - x.1) ∧ x.1 ≤ x.2.1 ∧ (x.1 = 0 ∨ ahd (s.getD (x.1 - 1) 0) = true) ∧ Apart s x.2.1 t
theorem fd_apart (s : List UInt8) : ∀ (f i at' : Nat) (ok : Bool), at' ≤ i → (ok = true → i = 0 ∨ ahd (s.getD (i - 1) 0) = true) → Apart s at' (fd f ok i (s.drop i))
  | 0, _, _, _, _, _ => trivial
  | f + 1, i, at', ok, hi, hok => by
    cases hd : s.drop i with
    | nil => exact trivial
    | cons x t =>
      have hil : i < s.length := by
        rcases Nat.lt_or_ge i s.length with h | h
        · exact h
        · rw [List.drop_eq_nil_of_le h] at hd; cases hd
      have hdr : s.drop i = s[i] :: s.drop (i + 1) := List.drop_eq_getElem_cons hil
      rw [hdr] at hd
      obtain ⟨rfl, rfl⟩ := List.cons.inj hd
      rw [fd]
      by_cases hc : ok = false ∨ (one (s[i] :: s.drop (i + 1))).2 = 0
      · rw [if_pos hc]
        refine fd_apart s f (i + 1) at' _ (by omega) (fun h => .inr ?_)
        rw [Nat.add_sub_cancel, List.getD_eq_getElem?_getD, List.getElem?_eq_getElem hil]
        exact h
      · rw [if_neg hc]
        have h0 : (one (s[i] :: s.drop (i + 1))).2 ≠ 0 := fun e => hc (.inr e)
        have hok1 : ok = true := by
          cases ok with
          | true => rfl
          | false => exact absurd (.inl rfl) hc
        have hw := one_whole _ h0
        have hn := hw.len
        rw [← hdr] at hw hn h0 ⊢
        rw [List.length_drop] at hn
        generalize one (s.drop i) = r at *
        refine ⟨hi, by rw [Nat.add_sub_cancel_left]; exact hw, Nat.le_add_right _ _, hok hok1, ?_⟩
        rw [List.drop_drop]
        refine fd_apart s f (i + r.2) (i + r.2) _ (Nat.le_refl _) (fun h => .inr ?_)
        rw [List.getD_eq_getElem?_getD, List.getElem?_drop] at h
        rw [List.getD_eq_getElem?_getD, show i + r.2 - 1 = i + (r.2 - 1) by omega]
        exact h
theorem fd_le : ∀ (f : Nat) (ok : Bool) (i : Nat) (l : List UInt8), (fd f ok i l).length ≤ f
  | 0, _, _, _ => Nat.le_refl _
  | _ + 1, _, _, [] => Nat.zero_le _
  | f + 1, ok, i, x :: t => by
    rw [fd]
    split
    · exact Nat.le_succ_of_le (fd_le f _ _ _)
    · rw [List.length_cons]
      exact Nat.succ_le_succ (fd_le f _ _ _)
theorem adr_apart (s : List UInt8) : Apart s 0 (adr s) := by
  have := fd_apart s s.length 0 0 true (Nat.le_refl _) (fun _ => .inl rfl)
  rwa [List.drop_zero] at this
end Go.Proofs.YtddmddlaamcpiaaDoor.Pl

namespace Go.Proofs.YtddmddlaamcpiaaDoor.PA
open Go.RowKit Go.Proofs.YtddmddlaamcpiaaDoor.Pl Go.Proofs.YtddmddlaamcpiaaDoorW.PrintWords Go.Proofs.YtddmddlaamcpiaaDoorW.PrintLast Go.Proofs.YtddmddlaamcpiaaDoorW.PrintMore
set_option linter.unusedVariables false

/-- Addresses rise. -/
def Rise (n : Nat) : Nat → List (Nat × Nat × List UInt8) → Prop
  | at', [] => at' ≤ n
  | at', x :: t => at' ≤ x.1 ∧ x.1 ≤ x.2.1 ∧ x.2.1 ≤ n ∧ Rise n x.2.1 t
theorem rise_of (s : List UInt8) : ∀ (es : List (Nat × Nat × List UInt8)) (at' : Nat), at' ≤ s.length → Apart s at' es → Rise s.length at' es
  | [], _, h, _ => h
  | x :: t, at', h, ha => by
    obtain ⟨h1, hw, h2, _, hr⟩ := ha
    have hl := hw.2
    have h3 := hw.1
    rw [List.length_drop] at hl
    exact ⟨h1, h2, by omega, rise_of s t x.2.1 (by omega) hr⟩
/-- A row of nodes that is made here, out of what came in and what is new. -/
structure Got (n0 : Nat) (w : World) (P : List Nd → Prop) (e : Ending) (w' : World) : Prop where
  res : ∃ A c, ∃ ys : List Nd, e = .returned (.slice A ys.length c) ∧ ys.length ≤ c ∧ FN w' (fun k => k < n0 ∨ w.heap.size ≤ k) A ys ∧ P ys
  bel : Below w.heap.size w w'
theorem meas_lt {n i : Nat} (h : i < n) : n - ((i : Int) + 1).toNat < n - ((i : Int)).toNat := by omega
theorem gap_len (s : ByteArray) (a b : Nat) : (gap s a b).length ≤ 1 := by unfold gap; split <;> simp
theorem gap_bit (s : ByteArray) (a b : Nat) : ∀ y ∈ gap s a b, Bit y := by
  unfold gap
  split
  · intro y hy
    rw [List.mem_singleton.1 hy]
    exact .inl ⟨rfl, rfl⟩
  · intro y hy
    simp at hy
theorem lnk_bit (D s : ByteArray) : Bit (lnk D s) := .inr ⟨rfl, txt s, rfl, rfl, rfl⟩
set_option maxHeartbeats 8000000 in
set_option maxRecDepth 100000 in
theorem parts_calls {w : World} (hLd : Laid w) {x : Nd} {A : Option Addr} {c n0 : Nat} (h0 : n0 ≤ w.heap.size) (hx : FN w (fun k => k < n0) A x.f6) (hc : x.f6.length ≤ c) (hs : x.f1.size ≤ 131072) :
    Calls Tryd.prog 17 #[.agg (ncs x A c)] w (Got n0 w (Pcs x)) := by
  have hz : x.f1.data.toList.length = x.f1.size := by rw [Array.length_toList]; rfl
  obtain ⟨kf, hkf⟩ := (find_ev x.f1.data.toList (by omega)).rounds
  rw [B_eta] at hkf
  have hri := rise_of x.f1.data.toList _ 0 (Nat.zero_le _) (adr_apart x.f1.data.toList)
  have hlen : (adr x.f1.data.toList).length ≤ x.f1.size := by rw [← hz]; exact fd_le _ _ _ _
  rw [hz] at hri
  obtain ⟨es, hes⟩ : ∃ es, adr x.f1.data.toList = es := ⟨_, rfl⟩
  rw [hes] at hkf hri hlen
  obtain ⟨fs, hfs⟩ : ∃ fs, es.map toS = fs := ⟨_, rfl⟩
  have hfl : fs.length = es.length := by rw [← hfs, List.length_map]
  rw [hfs] at hkf
  have HFS := Aside0.mk hfs
  have HFL := Aside0.mk hfl
  have HRI := Aside0.mk hri
  have HLE := Aside0.mk (show fs.length ≤ x.f1.size by omega)
  have HFI := Aside0.mk (fun (W : World) (hW : Below w.heap.size w W) => auto_Find.calls kf x.f1 fs W (hLd.go hW) hkf)
  have HX := Aside0.mk hx
  have HC := Aside0.mk hc
  have HN0 := Aside0.mk h0
  have HSZ := Aside0.mk hs
  obtain ⟨R, hR⟩ : ∃ R, Got n0 w (Pcs x) = R := ⟨_, rfl⟩
  have HR := Aside0.mk hR
  rw [hR]
  clear hLd h0 hx hc hs hz hkf hri hlen hes hfs hfl hR
  go_enter Tryd.func17, Tryd.ntmps17
  go_wp2_with fail
  refine (HFI.out _ (below_alloc (Below.refl _ _) _)).mono ?_
  rintro e V ⟨v0, rfl, hRw, hb⟩
  obtain ⟨Af, cf, rfl, hlc, hCf⟩ := Kd.R_reads hRw
  have HN := Aside0.mk (show V.heap[w.heap.size]? = some (.cells (ncs x A c) 31 (0, 0)) from (hb.block _ (by rw [World.size_alloc]; exact Nat.lt_succ_self _)).trans (heap_alloc_new w _))
  have HBV := Aside0.mk (show Below w.heap.size w V from below_step (below_alloc (Below.refl _ _) _) hb)
  have HCF := Aside0.mk hCf
  clear hRw hlc hCf hb HFI
  by_cases hm : fs.length = 0
  · have q1 : ((fs.length : Int) == 0) = true := by rw [hm]; rfl
    have q2 : (fs.length == 0) = true := by rw [hm]; rfl
    obtain ⟨d0, d1, d2, d3, d4, d5, d6⟩ := ndAt HN.out
    clear hm
    go_wp2
    show R (.returned (.slice (some ⟨V.heap.size, 0, none⟩) 1 1)) (V.alloc (.cells (ncs x A c) 31))
    rw [← HR.out]
    refine ⟨⟨some ⟨V.heap.size, 0, none⟩, 1, [x], rfl, Nat.le_refl _, fn_one (heap_alloc_new V _) HC.out ?_ (.inr HBV.out.size), .inl rfl⟩, below_alloc HBV.out _⟩
    exact Kd.F_mono (Kd.F_alloc (Kd.F_step HX.out fun k hk hlt => HBV.out.block k hlt) _) fun k hk => .inl hk
  · have q1 : ((fs.length : Int) == 0) = false := beq_eq_false_iff_ne.2 (by omega)
    have q2 : (fs.length == 0) = false := beq_eq_false_iff_ne.2 hm
    clear hm
    have HL0 := Aside0.mk (show Ls V 0 [] ((V.alloc (.cells #[.slice none 0 0] 29)).alloc (.cells #[.int .i64 0] 3)) from
      ⟨below_alloc (below_alloc (Below.refl _ _) _) _, by simp, heap_alloc2_new V _ _, .slice none 0 0, (Below.heap_alloc _ _ _ (by simp)).trans (heap_alloc_new V _), Kd.N_nil _ _ _ _ _⟩)
    go_wp2_with fail
    go_loopw [8, 20] (fun v8 v20 wr => ∃ (i at' : Nat) (M : List Nd), v20 = .int .i64 (i : Int) ∧ i ≤ fs.length ∧ Aside0 (Ls V at' M wr) ∧ Aside0 (Rise x.f1.size at' (es.drop i)) ∧ Aside0 (M.length ≤ 2 * i) ∧ Aside0 (∀ y ∈ M, Bit y)) (fun _ v20 _ => fs.length - (intOf v20).toNat)
    case atStart => exact ⟨0, 0, [], rfl, Nat.zero_le _, HL0, HRI, ⟨Nat.zero_le _⟩, ⟨fun y hy => by simp at hy⟩⟩
    case round =>
      obtain ⟨i, at', M, rfl, hi, HLM, HRS, HML, HMB⟩ := hrel
      clear HL0 HRI
      by_cases hlt : i < fs.length
      · have q3 : decide ((i : Int) < (fs.length : Int)) = true := decide_eq_true (by omega)
        have p0 := eq_true (show 0 ≤ (i : Int) from by omega)
        have p1 := eq_true (show (i : Int) < (fs.length : Int) from by omega)
        have hie : i < es.length := by have := HFL.out; omega
        have hrs := HRS.out
        rw [List.drop_eq_getElem_cons hie] at hrs
        obtain ⟨ad, e1, y0, y1, y2⟩ := at_T26 (Kd.C_below HCF.out HLM.out.bel) (i : Int) (by omega) (by omega)
        have hel : rd_T26 fs (i : Int) = toS es[i] := by
          rw [← HFS.out]
          unfold rd_T26
          rw [Int.toNat_natCast, List.getD_eq_getElem?_getD, List.getElem?_map, List.getElem?_eq_getElem hie]
          rfl
        rw [hel, Int.toNat_natCast] at y0 y1 y2
        obtain ⟨E, hE⟩ : ∃ E, es[i] = E := ⟨_, rfl⟩
        rw [hE] at hrs y0 y1 y2
        obtain ⟨f, t, Db⟩ := E
        obtain ⟨hr1, hr2, hr3, hr4⟩ := hrs
        dsimp only [toS] at y0 y1 y2 hr1 hr2 hr3 hr4
        obtain ⟨D, hD⟩ : ∃ D, B Db = D := ⟨_, rfl⟩
        rw [hD] at y2
        cases e1
        have HR4 := Aside0.mk hr4
        clear hE hel hD hr4
        obtain ⟨bf, hbf⟩ : ∃ bf, wr.heap.size = bf := ⟨_, rfl⟩
        have HLA := Aside0.mk (HLM.out.step (below_alloc (Below.refl _ wr) (.cells #[.int .i64 (f : Int), .int .i64 (t : Int), .string D] 26)))
        have HBX0 := Aside0.mk (show (wr.alloc (.cells #[.int .i64 (f : Int), .int .i64 (t : Int), .string D] 26)).heap[bf]? = some (.cells #[.int .i64 (f : Int), .int .i64 (t : Int), .string D] 26 (0, 0)) from by rw [← hbf]; exact heap_alloc_new wr _)
        have HBF := Aside0.mk (show bf ≠ V.heap.size by have := HLM.out.lt; omega)
        obtain ⟨w1, hw1⟩ : ∃ w1, wr.alloc (.cells #[.int .i64 (f : Int), .int .i64 (t : Int), .string D] 26) = w1 := ⟨_, rfl⟩
        rw [hw1] at HLA HBX0
        have g0 := (Lib.cell_of_heap HBX0.out 0).trans rfl
        have HCA := Aside0.mk (lay_calls HN.out f HLA.out (by omega) (by have := HSZ.out; omega) (by have := HML.out; have := HLE.out; have := HSZ.out; omega))
        clear HLM
        go_wp2_with fail
        refine HCA.out.mono ?_
        rintro e W ⟨rfl, hq⟩
        obtain ⟨L, hL⟩ : ∃ L, M ++ gap x.f1 at' f = L := ⟨_, rfl⟩
        rw [hL] at hq
        obtain ⟨v, hv⟩ := hq.ls.v
        obtain ⟨Av, cv, rfl⟩ := Kd.N_slice hv.row
        have HP := Aside0.mk (show Pv V at' L (.slice Av L.length cv) bf f t D W from ⟨hv, hq.ty _ _ _ HBF.out (by decide) HBX0.out⟩)
        have HLL := Aside0.mk (show L.length ≤ 2 * i + 1 from by rw [← hL, List.length_append]; have := gap_len x.f1 at' f; have := HML.out; omega)
        have HLB := Aside0.mk (show ∀ y ∈ L, Bit y from by
          rw [← hL]
          intro y hy
          rcases List.mem_append.1 hy with hy | hy
          · exact HMB.out y hy
          · exact gap_bit _ _ _ y hy)
        have HL := Aside0.mk (show L.length ≤ 1048576 from by have := HLL.out; have := HLE.out; have := HSZ.out; omega)
        have b0 := HP.out.b0
        have b1 := HP.out.b1
        have b2 := HP.out.b2
        have k0 := HP.out.lv.c0
        have k1 := (ndAt (HP.out.lv.cn HN.out)).d1
        have pf0 := eq_true (show 0 ≤ (f : Int) from by omega)
        have pf1 := eq_true (show (f : Int) ≤ (t : Int) from by omega)
        have pf2 := eq_true (show (t : Int) ≤ (x.f1.size : Int) from by omega)
        clear hq hv hL HCA HLA HBX0 hw1 g0 y0 y1 y2 HML HMB hbf
        have HE0 := Aside0.mk (fun (w5 : World) (h : Lyd V at' (L ++ [lnk D (x.f1.extract f t)]) W w5) => (⟨h.ls.set t, (Lib.cell_of_heap (h.ty _ _ _ HBF.out (by decide) HP.out.bx) 1).trans rfl, h.ls.c1, h.ls.fz⟩ : Ls V t (L ++ [lnk D (x.f1.extract f t)]) (w5.setCell ⟨V.heap.size + 1, 0, none⟩ (.int .i64 (t : Int))) ∧ w5.cell? ⟨bf, 1, none⟩ = some (.int .i64 (t : Int)) ∧ w5.cell? ⟨V.heap.size + 1, 0, none⟩ = some (.int .i64 at') ∧ w5.frozen? ⟨V.heap.size + 1, 0, none⟩ = false))
        have HAP := app_region HN.out HP.out HBF.out hr2 hr3 HL.out
        simp only [opsOf, Tryd.f17, opsIn, Option.bind_some, Option.getD_some, Nat.reduceBEq, Bool.false_eq_true, if_false, if_true] at HAP
        replace HAP := Aside0.mk HAP
        clear b0 b1 b2 k0 k1 pf0 pf1 pf2 hr1 hr2 hr3
        go_wp2_with fail
        refine HAP.out _ ?hp _ _ _ _ _ _ _ _ _ _ _ _ _ _ _ _ _ _ _ _ _ _ _ _ _ _ _ _ _ _ _ _ _ _ _ _ _ _ _ _ _ _ _ _ _ _ _ _ _ _ _ ?hq
        case hp =>
          intro _ _ _ _ _ h
          exact h
        case hq =>
          intro v28 v29 v30 v31 v32 v33 v34 v35 v36 v37 v38 v39 v40 v41 v42 v43 v44 w5 hE
          obtain ⟨hs5, b51, c51, f51⟩ := HE0.out w5 hE
          have HS5 := Aside0.mk hs5
          clear hs5 hE HAP HE0
          go_wp2
          have hib : i < 1000000 := by have := HLE.out; have := HSZ.out; omega
          have hw6 : wrap64 ((i : Int) + 1) = (i : Int) + 1 := w64 (by omega) (by omega)
          go_roundw
          case rel => exact ⟨i + 1, t, L ++ [lnk D (x.f1.extract f t)], by rw [hw6]; rfl, by omega, HS5, HR4, ⟨by have := HLL.out; rw [List.length_append, List.length_singleton]; omega⟩, ⟨fun y hy => (List.mem_append.1 hy).elim (HLB.out y) (fun h => by rw [List.mem_singleton.1 h]; exact lnk_bit _ _)⟩⟩
          case measure =>
            rw [hw6]
            exact meas_lt hlt
      · have q3 : decide ((i : Int) < (fs.length : Int)) = false := decide_eq_false (by omega)
        have hie : es.length ≤ i := by have := HFL.out; omega
        have hrs := HRS.out
        rw [List.drop_eq_nil_of_le hie] at hrs
        have k1 := (ndAt ((HLM.out.bel.block _ (Array.getElem?_eq_some_iff.1 HN.out).1).trans HN.out)).d1
        have HCA := Aside0.mk (lay_calls HN.out x.f1.size HLM.out (Nat.le_refl _) (by have := HSZ.out; omega) (by have := HML.out; have := HLE.out; have := HSZ.out; omega))
        clear hrs
        go_wp2_with fail
        refine HCA.out.mono ?_
        rintro e W ⟨rfl, hq⟩
        obtain ⟨v, hv⟩ := hq.ls.v
        obtain ⟨Av, cv, rfl⟩ := Kd.N_slice hv.row
        have k0 := hv.c0
        have HQ := Aside0.mk hv
        clear hq hv HCA k1 HLM
        go_wp2
        show R (.returned (.slice Av (M.length + (gap x.f1 at' x.f1.size).length) cv)) W
        rw [← HR.out, ← List.length_append]
        have hr := Kd.N_reads' HQ.out.row
        refine ⟨⟨Av, cv, M ++ gap x.f1 at' x.f1.size, rfl, hr.2.1, Kd.F_mono (Kd.N_F HQ.out.row) fun k hk => .inr ?_, .inr ⟨?_, ?_⟩⟩, HBV.out.trans (HQ.out.bel.mono HBV.out.size)⟩
        · have := HBV.out.size; omega
        · rw [List.length_append]; have := gap_len x.f1 at' x.f1.size; have := HML.out; have := HLE.out; omega
        · intro y hy
          rcases List.mem_append.1 hy with hy | hy
          · exact HMB.out y hy
          · exact gap_bit _ _ _ y hy
end Go.Proofs.YtddmddlaamcpiaaDoor.PA

namespace Go.Proofs.YtddmddlaamcpiaaDoor.PA
open Go.RowKit Go.Proofs.YtddmddlaamcpiaaDoor.Pl Go.Proofs.YtddmddlaamcpiaaDoorW.PrintWords Go.Proofs.YtddmddlaamcpiaaDoorW.PrintLast Go.Proofs.YtddmddlaamcpiaaDoorW.PrintMore
set_option linter.unusedVariables false

theorem take_succ' {l : List Nd} {i : Nat} (h : i < l.length) : l.take (i + 1) = l.take i ++ [l[i]] := by rw [List.take_add_one, List.getElem?_eq_getElem h]; rfl
theorem apL_next {l M ys : List Nd} {i : Nat} (h : i < l.length) (hM : ApL (l.take i) M) (hy : Ap1 l[i] ys) : ApL (l.take (i + 1)) (M ++ ys) := by
  rw [take_succ' h]
  exact apL_append hM (apL_one hy)
theorem ap1_text {x : Nd} {ys : List Nd} (h : x.f0 = 14) (hp : Pcs x ys) : Ap1 x ys := by
  cases x
  rw [Ap1]
  dsimp only at h
  rw [if_pos h]
  exact hp
theorem ap1_link {x : Nd} (h : x.f0 = 20) : Ap1 x [x] := by
  cases x
  rw [Ap1]
  dsimp only at h
  rw [if_neg (by omega), if_pos h]
theorem ap1_in {x : Nd} {ys : List Nd} (h : x.f0 ≠ 14) (h2 : x.f0 ≠ 20) (hy : ApL x.f6 ys) : Ap1 x [⟨x.f0, x.f1, x.f2, x.f3, x.f4, x.f5, ys⟩] := by
  cases x
  rw [Ap1]
  dsimp only at h h2 hy ⊢
  rw [if_neg h, if_neg h2]
  exact ⟨ys, hy, rfl⟩
theorem wt_at {l : List Nd} {i : Nat} (hi : i < l.length) : wt l[i].f6 + l[i].f1.size + 1 ≤ wt l := by
  have h1 := wt_mem (List.getElem_mem hi)
  have h2 := wt1_eta l[i]
  omega
/-- What holds at the head of Apply's loop. -/
structure Hd (w : World) (n0 : Nat) (l : List Nd) (i : Nat) (M : List Nd) (v : Value) (W : World) : Prop where
  row : NN W w.heap.size (fun k => k < n0 ∨ w.heap.size ≤ k) v M
  bel : Below w.heap.size w W
  ap : ApL (l.take i) M
  len : M.length ≤ 524288
theorem Hd.lens {l : List Nd} (hw : wt l ≤ 131072) {i : Nat} {M : List Nd} (h : ApL (l.take i) M) : M.length ≤ 524288 := by
  have h1 := apL_ct _ _ h
  have h2 := len_ct M
  have h3 : wt (l.take i) ≤ wt l := by
    have := wt_append (l.take i) (l.drop i)
    rw [List.take_append_drop] at this
    omega
  omega
set_option maxHeartbeats 4000000 in
set_option maxRecDepth 100000 in
theorem apply_all : ∀ (n : Nat) (l : List Nd), wt l < n → ∀ (w : World) (A : Option Addr) (c n0 : Nat), Laid w → n0 ≤ w.heap.size → FN w (fun k => k < n0) A l → l.length ≤ c → wt l ≤ 131072 →
    Calls Tryd.prog 12 #[.slice A l.length c] w (Got n0 w (ApL l)) := by
  intro n
  induction n with
  | zero => intro l h; omega
  | succ n ih =>
  intro l hn w A c n0 hLd h0 hF hc hw
  have HN := Aside0.mk hn
  have HLD := Aside0.mk hLd
  have H0 := Aside0.mk h0
  have HF := Aside0.mk hF
  have HC := Aside0.mk hc
  have HW := Aside0.mk hw
  have hll := len_wt l
  have HLL := Aside0.mk (show l.length ≤ 131072 by omega)
  obtain ⟨R, hR⟩ : ∃ R, Got n0 w (ApL l) = R := ⟨_, rfl⟩
  have HR := Aside0.mk hR
  rw [hR]
  clear hn hLd h0 hF hc hw hll hR
  have HS := Aside0.mk (show Hd w n0 l 0 [] (.slice none 0 0) w from ⟨Kd.N_nil _ _ _ _ _, Below.refl _ _, by rw [List.take_zero, ApL], Nat.zero_le _⟩)
  go_enter Tryd.func12, Tryd.ntmps12
  go_wp2_with fail
  go_loopw [3, 5, 8] (fun v3 v5 v8 wr => ∃ (i : Nat) (M : List Nd), v8 = .int .i64 (i : Int) ∧ i ≤ l.length ∧ Aside0 (Hd w n0 l i M v3 wr)) (fun _ _ v8 _ => l.length - (intOf v8).toNat)
  case atStart => exact ⟨0, [], rfl, Nat.zero_le _, HS⟩
  case round =>
    obtain ⟨i, M, rfl, hi, HD⟩ := hrel
    clear HS
    by_cases hlt : i < l.length
    · have q1 : decide ((i : Int) < (l.length : Int)) = true := decide_eq_true (by omega)
      have p0 := eq_true (show 0 ≤ (i : Int) from by omega)
      have p1 := eq_true (show (i : Int) < (l.length : Int) from by omega)
      have hib : i < 1000000 := by have := HLL.out; omega
      have HW6 := Aside0.mk (show wrap64 ((i : Int) + 1) = (i : Int) + 1 from w64 (by omega) (by omega))
      obtain ⟨ad, A6, c6, e1, hc6, hF6, hel⟩ := fn_at HF.out hlt
      cases e1
      have hwt := wt_at hlt
      have HNX := Aside0.mk (fun ys (hM : ApL (l.take i) M) (hy : Ap1 l[i] ys) => apL_next hlt hM hy)
      obtain ⟨x, hx⟩ : ∃ x, l[i] = x := ⟨_, rfl⟩
      rw [hx] at hc6 hF6 hel hwt HNX
      have HXS := Aside0.mk (show x.f1.size ≤ 131072 by have := HW.out; omega)
      have HXW := Aside0.mk (show wt x.f6 < n ∧ wt x.f6 ≤ 131072 by have := HW.out; have := HN.out; omega)
      obtain ⟨x0, x1, x2, x3, x4, x5, x6⟩ := el_below hel HD.out.bel
      obtain ⟨Av, cv, rfl⟩ := Kd.N_slice HD.out.row
      have HOW := Aside0.mk (show ∀ k, some k = (Value.slice Av M.length cv).ownBlock → w.heap.size ≤ k ∧ k < wr.heap.size from fun k e => ⟨Kd.N_base HD.out.row k e.symm, Kd.N_lt HD.out.row k e.symm⟩)
      clear hx hel hwt hib
      have HBW := Aside0.mk (show Below wr.heap.size wr (wr.alloc (.cells (ncs x A6 c6) 31)) from below_alloc (Below.refl _ _) _)
      have HF1 := Aside0.mk (show FN (wr.alloc (.cells (ncs x A6 c6) 31)) (fun k => k < n0) A6 x.f6 from Kd.F_alloc (Kd.F_step hF6 fun k hk hlt => HD.out.bel.block k hlt) _)
      have HC6 := Aside0.mk hc6
      have HK1 := Aside0.mk (heap_alloc_new wr (.cells (ncs x A6 c6) 31))
      have HZ1 := Aside0.mk (show (wr.alloc (.cells (ncs x A6 c6) 31)).heap.size = wr.heap.size + 1 from World.size_alloc _ _)
      clear hF6 hc6
      obtain ⟨o, ho⟩ : ∃ o, wr.heap.size = o := ⟨_, rfl⟩
      obtain ⟨w1, hw1⟩ : ∃ w1, wr.alloc (.cells (ncs x A6 c6) 31) = w1 := ⟨_, rfl⟩
      rw [hw1] at HBW HF1 HK1 HZ1
      rw [ho] at HK1 HZ1
      have HO := Aside0.mk ho
      obtain ⟨d0, d1, d2, d3, d4, d5, d6⟩ := ndAt HK1.out
      by_cases c14 : x.f0 = 14
      · have q14 : (x.f0 == 14) = true := beq_iff_eq.2 c14
        have HPC := Aside0.mk (parts_calls (n0 := n0) (HLD.out.go (HD.out.bel.trans (HBW.out.mono HD.out.bel.size))) (by have := H0.out; have := HD.out.bel.size; have := HBW.out.size; omega) HF1.out HC6.out HXS.out)
        have HTX := Aside0.mk (fun ys hp => ap1_text (ys := ys) c14 hp)
        clear c14
        have HHB := Aside0.mk HD.out.bel.size
        go_wp2_with fail
        refine HPC.out.mono ?_
        rintro e w2 hq
        obtain ⟨A', c', ys, rfl, hyc, hyF, hyP⟩ := hq.res
        have HY := Aside0.mk hyF
        have HB2 := Aside0.mk (show Below wr.heap.size wr w2 from HBW.out.trans (hq.bel.mono (by have := HBW.out.size; omega)))
        have HRW := Aside0.mk (Kd.N_below HD.out.row HB2.out)
        have HBB := Aside0.mk (HD.out.bel.trans (HB2.out.mono HD.out.bel.size))
        have HYL := Aside0.mk (show ys.length ≤ 262145 from by
          rcases hyP with rfl | ⟨h, _⟩
          · simp
          · have := HXS.out; omega)
        have HAP := Aside0.mk (HNX.out ys HD.out.ap (HTX.out ys hyP))
        clear hq hyc hyF hyP HPC d0 d1 d2 d3 d4 d5 d6
        go_wp2_with (first | (at_builtin; refine Kd.N_append_rows k31 (w0 := w) w.heap.size rfl (.tmp 20) (.tmp 22) 29 31 (.agg #[.int .i64 0, .string ⟨#[]⟩, .string ⟨#[]⟩, .int .i64 0, .int .i64 0, .bool false, .slice none 0 0]) 88 rfl Tryd.underlying29 infoNd rfl (by decide) (by omega) (.slice Av M.length cv) M ys A' ys.length c' (fun k => k < n0 ∨ w.heap.size ≤ k) (fun k => k < n0 ∨ w1.heap.size ≤ k) rfl rfl ?aO ?aR ?aK ?aF ?aB ?aS ?aL ?_; (case aO => exact HRW.out); (case aR => exact HY.out); (case aK => exact fun k hk => ⟨hk.imp id fun h => by have := HZ1.out; have := HHB.out; have := HO.out; omega, fun e => by have h1 := HOW.out k e; have := HZ1.out; have := H0.out; have := HO.out; omega⟩); (case aF => exact fun k hk => .inr (Nat.le_trans HBB.out.size hk)); (case aB => exact HBB.out); (case aS => exact HBB.out.size); (case aL => have := HD.out.len; have := HYL.out; omega); intro v1 w4 ho4 hb4 hg4 hat4; have HN4 := Aside0.mk ho4; have HB4 := Aside0.mk hb4; clear ho4 hb4 hg4 hat4))
        go_roundw
        case rel => exact ⟨i + 1, M ++ ys, by rw [HW6.out]; rfl, by omega, ⟨⟨HN4.out, HB4.out, HAP.out, Hd.lens HW.out HAP.out⟩⟩⟩
        case measure => rw [HW6.out]; exact meas_lt hlt
      · have q14 : (x.f0 == 14) = false := beq_eq_false_iff_ne.2 c14
        by_cases c20 : x.f0 = 20
        · have q20 : (x.f0 == 20) = true := beq_iff_eq.2 c20
          have HAP := Aside0.mk (HNX.out [x] HD.out.ap (ap1_link c20))
          have HRW := Aside0.mk (Kd.N_below HD.out.row HBW.out)
          have HBB := Aside0.mk (HD.out.bel.trans (HBW.out.mono HD.out.bel.size))
          clear c14 c20
          go_wp2_with (first | (at_builtin; refine Kd.N_append k31 (w0 := w) (W := w1) w.heap.size rfl (.tmp 26) (.tmp 28) 29 31 (.agg #[.int .i64 0, .string ⟨#[]⟩, .string ⟨#[]⟩, .int .i64 0, .int .i64 0, .bool false, .slice none 0 0]) 88 rfl Tryd.underlying29 infoNd rfl (by decide) (by omega) (.slice Av M.length cv) M x [.int .i64 x.f0, .string x.f1, .string x.f2, .int .i64 x.f3, .int .i64 x.f4, .bool x.f5, .slice A6 x.f6.length c6] (fun k => k < n0 ∨ w.heap.size ≤ k) (fun k => k < n0) rfl rfl ?aP2 ?aK2 ?aF2 ?aO2 ?aB2 ?aS2 ?aL2 ?_; (case aP2 => exact fk_mk HC6.out HF1.out); (case aK2 => exact fun k hk => ⟨.inl hk, fun e => by have h1 := HOW.out k e; have := H0.out; omega⟩); (case aF2 => exact fun k hk => .inr (Nat.le_trans HBB.out.size hk)); (case aO2 => exact HRW.out); (case aB2 => exact HBB.out); (case aS2 => exact HBB.out.size); (case aL2 => have := HD.out.len; omega); intro v1 w4 ho4 hb4 hg4 hat4; have HN4 := Aside0.mk ho4; have HB4 := Aside0.mk hb4; clear ho4 hb4 hg4 hat4))
          go_roundw
          case rel => exact ⟨i + 1, M ++ [x], by rw [HW6.out]; rfl, by omega, ⟨⟨HN4.out, HB4.out, HAP.out, Hd.lens HW.out HAP.out⟩⟩⟩
          case measure => rw [HW6.out]; exact meas_lt hlt
        · have q20 : (x.f0 == 20) = false := beq_eq_false_iff_ne.2 c20
          have HIH := Aside0.mk (ih x.f6 HXW.out.1 w1 A6 c6 n0 (HLD.out.go (HD.out.bel.trans (HBW.out.mono HD.out.bel.size))) (by have := H0.out; have := HD.out.bel.size; have := HBW.out.size; omega) HF1.out HC6.out HXW.out.2)
          have HTX := Aside0.mk (fun ys hp => ap1_in (x := x) (ys := ys) c14 c20 hp)
          have HHB := Aside0.mk HD.out.bel.size
          clear c14 c20
          go_wp2_with fail
          refine HIH.out.mono ?_
          rintro e w2 hq
          obtain ⟨A', c', ys, rfl, hyc, hyF, hyP⟩ := hq.res
          have HAP := Aside0.mk (HNX.out _ HD.out.ap (HTX.out ys hyP))
          have HYC := Aside0.mk hyc
          have hk2 := (hq.bel.block o (by have := HZ1.out; omega)).trans HK1.out
          obtain ⟨d0, d1, d2, d3, d4, d5, d6⟩ := ndAt hk2
          have f6 : w2.frozen? ⟨o, 6, none⟩ = false := Lib.frozen_of_heap hk2 6
          have HK3 := Aside0.mk (blk_set hk2 6 (.slice A' ys.length c'))
          have HBS := Aside0.mk (show Below wr.heap.size wr (w2.setCell ⟨o, 6, none⟩ (.slice A' ys.length c')) from by
            have h1 := HBW.out.trans (hq.bel.mono (by have := HBW.out.size; omega))
            have h2 := HO.out
            exact ⟨h1.os, h1.tape, h1.output, by simp; exact h1.size, fun k hk => (Below.heap_setCell _ _ _ _ (by show k ≠ o; omega)).trans (h1.block k hk)⟩)
          have HY := Aside0.mk (show FN (w2.setCell ⟨o, 6, none⟩ (.slice A' ys.length c')) (fun k => k < n0 ∨ w1.heap.size ≤ k) A' ys from Kd.F_step hyF fun k hk hlt => Below.heap_setCell _ _ _ _ (by show k ≠ o; have := HZ1.out; have := H0.out; have := HHB.out; have := HO.out; omega))
          obtain ⟨w3, hw3⟩ : ∃ w3, w2.setCell ⟨o, 6, none⟩ (.slice A' ys.length c') = w3 := ⟨_, rfl⟩
          have HW3 := Aside0.mk hw3
          rw [hw3] at HK3 HBS HY
          have HRW := Aside0.mk (Kd.N_below HD.out.row HBS.out)
          have HBB := Aside0.mk (HD.out.bel.trans (HBS.out.mono HD.out.bel.size))
          have HN3 := Aside0.mk (ndAt (x := ⟨x.f0, x.f1, x.f2, x.f3, x.f4, x.f5, ys⟩) (A6 := A') (c6 := c') (by simpa using HK3.out))
          clear hq hyc hyF hyP HIH hw3 hk2
          go_upto_region 10 with fail
          rw [HW3.out]
          clear d0 d1 d2 d3 d4 d5 d6 f6
          obtain ⟨d0, d1, d2, d3, d4, d5, d6⟩ := HN3.out
          go_wp2_with (first | (at_builtin; refine Kd.N_append k31 (w0 := w) (W := w3) w.heap.size rfl (.tmp 26) (.tmp 28) 29 31 (.agg #[.int .i64 0, .string ⟨#[]⟩, .string ⟨#[]⟩, .int .i64 0, .int .i64 0, .bool false, .slice none 0 0]) 88 rfl Tryd.underlying29 infoNd rfl (by decide) (by omega) (.slice Av M.length cv) M ⟨x.f0, x.f1, x.f2, x.f3, x.f4, x.f5, ys⟩ [.int .i64 x.f0, .string x.f1, .string x.f2, .int .i64 x.f3, .int .i64 x.f4, .bool x.f5, .slice A' ys.length c'] (fun k => k < n0 ∨ w.heap.size ≤ k) (fun k => k < n0 ∨ w1.heap.size ≤ k) rfl rfl ?aP3 ?aK3 ?aF3 ?aO3 ?aB3 ?aS3 ?aL3 ?_; (case aP3 => exact fk_mk (x := ⟨x.f0, x.f1, x.f2, x.f3, x.f4, x.f5, ys⟩) HYC.out HY.out); (case aK3 => exact fun k hk => ⟨hk.imp id fun h => by have := HZ1.out; have := HHB.out; have := HO.out; omega, fun e => by have h1 := HOW.out k e; have := HZ1.out; have := H0.out; have := HO.out; omega⟩); (case aF3 => exact fun k hk => .inr (Nat.le_trans HBB.out.size hk)); (case aO3 => exact HRW.out); (case aB3 => exact HBB.out); (case aS3 => exact HBB.out.size); (case aL3 => have := HD.out.len; omega); intro v1 w4 ho4 hb4 hg4 hat4; have HN4 := Aside0.mk ho4; have HB4 := Aside0.mk hb4; clear ho4 hb4 hg4 hat4))
          go_roundw
          case rel => exact ⟨i + 1, M ++ [⟨x.f0, x.f1, x.f2, x.f3, x.f4, x.f5, ys⟩], by rw [HW6.out]; rfl, by omega, ⟨⟨HN4.out, HB4.out, HAP.out, Hd.lens HW.out HAP.out⟩⟩⟩
          case measure => rw [HW6.out]; exact meas_lt hlt
    · have q1 : decide ((i : Int) < (l.length : Int)) = false := decide_eq_false (by omega)
      obtain rfl : i = l.length := by omega
      obtain ⟨Av, cv, rfl⟩ := Kd.N_slice HD.out.row
      go_wp2
      show R (.returned (.slice Av M.length cv)) wr
      rw [← HR.out]
      have hr := Kd.N_reads' HD.out.row
      have ha := HD.out.ap
      rw [List.take_length] at ha
      exact ⟨⟨Av, cv, M, rfl, hr.2.1, Kd.N_F HD.out.row, ha⟩, HD.out.bel⟩
end Go.Proofs.YtddmddlaamcpiaaDoor.PA
