/-
  The law RenderWraps holds: for every input it answers true, its arguments read behind the call as before. Conditions: the listed package-level variables as the program's text lays them (tied by the card).
-/
import Derived.Test.YtchdkiakdnanhaaGreatDoorSRenderBase1
import Derived.Test.YtchdkiakdnanhaaGreatDoorSRenderBase4
import Derived.Deep.Slices
set_option linter.unusedVariables false
set_option linter.unusedSimpArgs false
namespace Go.Proofs.YtchdkiakdnanhaaGreatDoor.PA
open Go.RowKit Go.Proofs.YtchdkiakdnanhaaGreatDoorW.PrintWords Go.Proofs.YtchdkiakdnanhaaGreatDoorW.PrintLast Go.Proofs.YtchdkiakdnanhaaGreatDoorW.PrintMore
attribute [local go_sem] max2_int min2_int max_two min_two max_three min_three max_four min_four   -- for this text's walks alone
set_option linter.unusedVariables false
set_option linter.unusedSimpArgs false

/-! ### incipitlaw20_few: function 16 -/
mutual
def incipitlaw20_few.j0 : Nat → List (S29) → Int → Bool → Option (Bool)
  | 0, _, _, _ => none
  | k + 1, x0, x1, x12 => if x12 = true then (some false) else (incipitlaw20_few.l0 k x0 x1 0)
def incipitlaw20_few.l0 : Nat → List (S29) → Int → Int → Option (Bool)
  | 0, _, _, _ => none
  | k + 1, x0, x1, x5 => if x5 < (x0.length : Int) then (if 0 ≤ x5 then (if (wrap64 ((((rd_T29 x0 x5).f1).size : Int) + (((rd_T29 x0 x5).f2).size : Int))) > 100 then (some false) else ((incipitlaw20_few.f k ((rd_T29 x0 x5).f6) (wrap64 (x1 + 1))).bind fun t113 => (if t113 = true then (incipitlaw20_few.l0 k x0 x1 (wrap64 (x5 + 1))) else (some false)))) else (none)) else (some true)
def incipitlaw20_few.f : Nat → List (S29) → Int → Option (Bool)
  | 0, _, _ => none
  | k + 1, l0, a1 => if a1 > 6 then (incipitlaw20_few.j0 k l0 a1 true) else (incipitlaw20_few.j0 k l0 a1 (decide ((l0.length : Int) > 8)))
end
theorem incipitlaw20_few.mono_l : ∀ k, (∀ y0 y1, LeO (incipitlaw20_few.f k y0 y1) (incipitlaw20_few.f (k + 1) y0 y1)) ∧ (∀ y0 y1 y2, LeO (incipitlaw20_few.j0 k y0 y1 y2) (incipitlaw20_few.j0 (k + 1) y0 y1 y2)) ∧ (∀ y0 y1 y2, LeO (incipitlaw20_few.l0 k y0 y1 y2) (incipitlaw20_few.l0 (k + 1) y0 y1 y2))
  | 0 => ⟨fun _ _ r h => by simp [incipitlaw20_few.f] at h, fun _ _ _ r h => by simp [incipitlaw20_few.j0] at h, fun _ _ _ r h => by simp [incipitlaw20_few.l0] at h⟩
  | k + 1 => by
    obtain ⟨ih0, ih1, ih2⟩ := incipitlaw20_few.mono_l k
    refine ⟨?_, ?_, ?_⟩
    · intro y0 y1
      unfold incipitlaw20_few.f
      repeat' first
      | (with_reducible exact ih0 _ _)
      | (with_reducible exact ih1 _ _ _)
      | (with_reducible exact ih2 _ _ _)
      | (with_reducible exact LeO.refl _)
      | (with_reducible exact LeO.none _)
      | (with_reducible refine LeO.ite ?_ ?_)
      | (with_reducible refine LeO.bind ?_ (fun _ => ?_))
      | exact ih0 _ _
      | exact ih1 _ _ _
      | exact ih2 _ _ _
      | exact LeO.none _
      | refine LeO.ite ?_ ?_
      | refine LeO.bind ?_ (fun _ => ?_)
    · intro y0 y1 y2
      unfold incipitlaw20_few.j0
      repeat' first
      | (with_reducible exact ih0 _ _)
      | (with_reducible exact ih1 _ _ _)
      | (with_reducible exact ih2 _ _ _)
      | (with_reducible exact LeO.refl _)
      | (with_reducible exact LeO.none _)
      | (with_reducible refine LeO.ite ?_ ?_)
      | (with_reducible refine LeO.bind ?_ (fun _ => ?_))
      | exact ih0 _ _
      | exact ih1 _ _ _
      | exact ih2 _ _ _
      | exact LeO.none _
      | refine LeO.ite ?_ ?_
      | refine LeO.bind ?_ (fun _ => ?_)
    · intro y0 y1 y2
      unfold incipitlaw20_few.l0
      repeat' first
      | (with_reducible exact ih0 _ _)
      | (with_reducible exact ih1 _ _ _)
      | (with_reducible exact ih2 _ _ _)
      | (with_reducible exact LeO.refl _)
      | (with_reducible exact LeO.none _)
      | (with_reducible refine LeO.ite ?_ ?_)
      | (with_reducible refine LeO.bind ?_ (fun _ => ?_))
      | exact ih0 _ _
      | exact ih1 _ _ _
      | exact ih2 _ _ _
      | exact LeO.none _
      | refine LeO.ite ?_ ?_
      | refine LeO.bind ?_ (fun _ => ?_)
theorem incipitlaw20_few.mono : ∀ a0 a1 k, LeO (incipitlaw20_few.f k a0 a1) (incipitlaw20_few.f (k + 1) a0 a1) := by
  intro a0 a1 k
  obtain ⟨ih0, ih1, ih2⟩ := incipitlaw20_few.mono_l k
  exact ih0 a0 a1
def incipitlaw20_few.T6 : Bool × List (List Nat × List Nat) := (true, [([], []), ([], []), ([0, 1], [0, 1]), ([2], [2]), ([3], [3]), ([4], [4]), ([], []), ([], []), ([6, 7], [6, 7]), ([8], [8]), ([9], [9]), ([10], [10]), ([5, 11], [5, 11]), ([12], [12]), ([13], [13]), ([14], [14]), ([14], [14]), ([15, 16, 14], [14, 15, 16]), ([17, 14], [14, 17]), ([18, 14], [14, 18]), ([14], [14]), ([20, 14], [14, 20]), ([19, 21, 14, 14], [14, 19, 21]), ([22, 14], [14, 22]), ([14, 23], [14, 23])])
def incipitlaw20_few.B6 : List Nat := [0, 0, 3, 7, 15, 31, 0, 0, 192, 448, 960, 1984, 4095, 8191, 16383, 32767, 32767, 131071, 262143, 524287, 32767, 1081343, 4194303, 8388607, 16777215]
theorem incipitlaw20_few.tab6 : rtab .any (opsOf Tryz.f16 6) = incipitlaw20_few.T6 := by kernel_rfl
theorem incipitlaw20_few.bits6 : waitsOk incipitlaw20_few.T6.2 incipitlaw20_few.B6 = true := by kernel_rfl
set_option maxHeartbeats 8000000 in
set_option maxRecDepth 100000 in
theorem incipitlaw20_few.calls (k : Nat) : ∀ (A0 : Option Addr) (c0 : Nat) (l0 : List (S29)) (a1 : Int) (r : Bool) (w : World) (hr0 : Kd.C k29 w A0 l0.length l0) (hc0 : l0.length ≤ c0) (h : incipitlaw20_few.f k l0 a1 = some r),
    Calls Tryz.prog 16 #[.slice A0 l0.length c0, .int .i64 a1] w fun e w' => e = .returned (.bool r) ∧ Below w.heap.size w w' := by
  induction k using Nat.strongRecOn with
  | _ k ih =>
  intro A0 c0 l0 a1 r w hr0 hc0 h
  cases k with
  | zero => exact absurd h (by simp [incipitlaw20_few.f])
  | succ k =>
  simp only [incipitlaw20_few.f] at h
  have HR0 := Aside0.mk hr0
  have HC0 := Aside0.mk hc0
  clear hr0 hc0
  have HB := Aside0.mk (Below.refl w.heap.size w)
  have H : (if a1 > 6 then (incipitlaw20_few.j0 k l0 a1 true) else (incipitlaw20_few.j0 k l0 a1 (decide ((l0.length : Int) > 8)))) = some r := h
  clear h
  have HC3 := Aside0.mk H
  clear H
  go_enter Tryz.func16, Tryz.ntmps16
  go_upto_region 1 with (fail)
  go_cut [12] (fun v12 wc => ∃ (kq : Nat) (x12_2 : Bool), v12 = .bool x12_2 ∧ Aside0 (incipitlaw20_few.j0 kq l0 a1 x12_2 = some r) ∧ Aside0 (kq ≤ k) ∧ Aside0 (Below w.heap.size w wc))
  case first =>
    have H := HC3.out
    clear HC3
    by_cases c4 : a1 > 6
    · rw [if_pos c4] at H
      have c4b0 : decide (6 < a1) = true := decide_eq_true c4
      clear c4
      (first | rw [c4b0] | (simp only [i64_w, i32_w]; rw [c4b0]) | skip)
      have H' := Aside0.mk H
      clear H
      go_wp2
      go_meet
      case rel => exact ⟨_, (true), (by first | rfl | (simp; done) | (simp [*]; done)), H', ⟨by first | omega | exact Nat.le_refl _⟩, ⟨by repeat (first | (with_reducible first | exact HB.out | apply below_alloc | apply pw_below_drewN | apply below_drew1) | exact HB.out)⟩⟩
    · rw [if_neg c4] at H
      have c4b0 : decide (6 < a1) = false := decide_eq_false c4
      clear c4
      (first | rw [c4b0] | (simp only [i64_w, i32_w]; rw [c4b0]) | skip)
      have H' := Aside0.mk H
      clear H
      go_wp2
      go_meet
      case rel => exact ⟨_, (decide ((l0.length : Int) > 8)), (by first | rfl | (simp; done) | (simp [*]; done)), H', ⟨by first | omega | exact Nat.le_refl _⟩, ⟨by repeat (first | (with_reducible first | exact HB.out | apply below_alloc | apply pw_below_drewN | apply below_drew1) | exact HB.out)⟩⟩
  case rest =>
    clear HC3
    try clear c1
    try clear p2
    try clear c4
    try clear c4b0
    obtain ⟨kq, x12_2, rfl, HA, HJ2, HB⟩ := hcut
    cases kq with
    | zero => exact absurd HA.out (by simp [incipitlaw20_few.j0])
    | succ kj2 =>
      have H := HA.out
      clear HA
      simp only [incipitlaw20_few.j0] at H
      by_cases c5 : x12_2 = true
      · subst c5
        have H1 : (some false) = some r := by rw [if_pos rfl] at H; exact H
        clear H
        have H := H1
        clear H1
        obtain rfl := Option.some.inj H
        go_wp2
        go_ret
        exact ⟨by first | rfl | (simp [errW_none, errW_some] <;> rfl) | (simp [*, errW_none, errW_some] <;> rfl), by repeat (first | (with_reducible first | exact HB.out | apply below_alloc | apply pw_below_drewN | apply below_drew1) | exact HB.out)⟩
      · replace c5 := Bool.eq_false_iff.mpr c5
        subst c5
        have H1 : (incipitlaw20_few.l0 kj2 l0 a1 0) = some r := by rw [if_neg (show ¬ (false = true) by decide)] at H; exact H
        clear H
        have H := H1
        clear H1
        have H' := Aside0.mk H
        clear H
        go_wp2
        go_loopg [5] kj2 (fun kq v5 w' => ∃ (x5_2 : Int), v5 = .int .i64 x5_2 ∧ Aside0 (incipitlaw20_few.l0 kq l0 a1 x5_2 = some r) ∧ Aside0 (kq ≤ kj2) ∧ Aside0 (Below w.heap.size w w'))
        case atStart => exact ⟨(0), (by first | rfl | (simp; done) | (simp [*]; done)), H', ⟨Nat.le_refl _⟩, ⟨by repeat (first | (with_reducible first | exact HB.out | apply below_alloc | apply pw_below_drewN | apply below_drew1) | exact HB.out)⟩⟩
        case round =>
          clear H'
          try clear c1
          try clear p2
          try clear c4
          try clear c4b0
          try clear c5
          try clear p2
          obtain ⟨x5_2, rfl, HA, HK2, HB⟩ := hrel
          cases gk with
          | zero => exact absurd HA.out (by simp [incipitlaw20_few.l0])
          | succ k2 =>
            have H := HA.out
            clear HA
            simp only [incipitlaw20_few.l0] at H
            by_cases c6 : x5_2 < (l0.length : Int)
            · rw [if_pos c6] at H
              have c6b0 : decide (x5_2 < (l0.length : Int)) = true := decide_eq_true c6
              clear c6
              by_cases c7 : 0 ≤ x5_2
              · rw [if_pos c7] at H
                have c7b0 : decide (0 ≤ x5_2) = true := decide_eq_true c7
                clear c7
                by_cases c8 : (wrap64 ((((rd_T29 l0 x5_2).f1).size : Int) + (((rd_T29 l0 x5_2).f2).size : Int))) > 100
                · rw [if_pos c8] at H
                  have c8b0 : decide (100 < (wrap64 ((((rd_T29 l0 x5_2).f1).size : Int) + (((rd_T29 l0 x5_2).f2).size : Int)))) = true := decide_eq_true c8
                  clear c8
                  obtain rfl := Option.some.inj H
                  try go_wp2
                  have n0_ := Aside0.mk (below_drew1 HB.out)
                  clear HB
                  have HB := n0_
                  clear n0_
                  have p110 : 0 ≤ (x5_2 : Int) := of_decide_eq_true (by first | (with_reducible assumption) | assumption)
                  have q110 : x5_2 < (l0.length : Int) := of_decide_eq_true (by first | (with_reducible assumption) | assumption)
                  obtain ⟨ad110, A110_6, c110_6, e110, hx110_0, hx110_1, hx110_2, hx110_3, hx110_4, hx110_5, hx110_6, hl110_6, hi110_6⟩ := at_T29 HR0.out x5_2 p110 q110
                  have hw110_6 := hx110_6
                  have hw110_5 := hx110_5
                  have hw110_4 := hx110_4
                  have hw110_3 := hx110_3
                  have hw110_2 := hx110_2
                  have hw110_1 := hx110_1
                  have hw110_0 := hx110_0
                  cases e110
                  replace hx110_0 := (HB.out.cell (World.block_lt_of_cell? w _ hx110_0)).trans hx110_0
                  replace hx110_1 := (HB.out.cell (World.block_lt_of_cell? w _ hx110_1)).trans hx110_1
                  replace hx110_2 := (HB.out.cell (World.block_lt_of_cell? w _ hx110_2)).trans hx110_2
                  replace hx110_3 := (HB.out.cell (World.block_lt_of_cell? w _ hx110_3)).trans hx110_3
                  replace hx110_4 := (HB.out.cell (World.block_lt_of_cell? w _ hx110_4)).trans hx110_4
                  replace hx110_5 := (HB.out.cell (World.block_lt_of_cell? w _ hx110_5)).trans hx110_5
                  replace hx110_6 := (HB.out.cell (World.block_lt_of_cell? w _ hx110_6)).trans hx110_6
                  have HR110_6 := Aside0.mk hi110_6
                  have HC110_6 := Aside0.mk hl110_6
                  clear hi110_6 hl110_6
                  replace p110 := eq_true p110
                  replace q110 := eq_true q110
                  have p111 : 0 ≤ (x5_2 : Int) := of_decide_eq_true (by first | (with_reducible assumption) | assumption)
                  have q111 : x5_2 < (l0.length : Int) := of_decide_eq_true (by first | (with_reducible assumption) | assumption)
                  obtain ⟨ad111, A111_6, c111_6, e111, hx111_0, hx111_1, hx111_2, hx111_3, hx111_4, hx111_5, hx111_6, hl111_6, hi111_6⟩ := at_T29 HR0.out x5_2 p111 q111
                  have hw111_6 := hx111_6
                  have hw111_5 := hx111_5
                  have hw111_4 := hx111_4
                  have hw111_3 := hx111_3
                  have hw111_2 := hx111_2
                  have hw111_1 := hx111_1
                  have hw111_0 := hx111_0
                  obtain rfl : ad110 = ad111 := (by injection e111)
                  replace hx111_0 := (HB.out.cell (World.block_lt_of_cell? w _ hx111_0)).trans hx111_0
                  replace hx111_1 := (HB.out.cell (World.block_lt_of_cell? w _ hx111_1)).trans hx111_1
                  replace hx111_2 := (HB.out.cell (World.block_lt_of_cell? w _ hx111_2)).trans hx111_2
                  replace hx111_3 := (HB.out.cell (World.block_lt_of_cell? w _ hx111_3)).trans hx111_3
                  replace hx111_4 := (HB.out.cell (World.block_lt_of_cell? w _ hx111_4)).trans hx111_4
                  replace hx111_5 := (HB.out.cell (World.block_lt_of_cell? w _ hx111_5)).trans hx111_5
                  replace hx111_6 := (HB.out.cell (World.block_lt_of_cell? w _ hx111_6)).trans hx111_6
                  have HR111_6 := Aside0.mk hi111_6
                  have HC111_6 := Aside0.mk hl111_6
                  clear hi111_6 hl111_6
                  replace p111 := eq_true p111
                  replace q111 := eq_true q111
                  have ea_ := Option.some.inj (hx110_6.symm.trans hx111_6)
                  injection ea_ with ea_ en_ ec_
                  subst ea_
                  subst ec_
                  clear en_
                  refine start_ (n := 25) (S := fun w' => w'.cell? (ad110.add ((x5_2).toNat * 7)) = some (.int .i64 ((rd_T29 l0 x5_2).f0)) ∧ w'.cell? ⟨(ad110.add ((x5_2).toNat * 7)).block, (ad110.add ((x5_2).toNat * 7)).off + 1, none⟩ = some (.string ((rd_T29 l0 x5_2).f1)) ∧ w'.cell? ⟨(ad110.add ((x5_2).toNat * 7)).block, (ad110.add ((x5_2).toNat * 7)).off + 2, none⟩ = some (.string ((rd_T29 l0 x5_2).f2)) ∧ w'.cell? ⟨(ad110.add ((x5_2).toNat * 7)).block, (ad110.add ((x5_2).toNat * 7)).off + 3, none⟩ = some (.int .i64 ((rd_T29 l0 x5_2).f3)) ∧ w'.cell? ⟨(ad110.add ((x5_2).toNat * 7)).block, (ad110.add ((x5_2).toNat * 7)).off + 4, none⟩ = some (.int .i64 ((rd_T29 l0 x5_2).f4)) ∧ w'.cell? ⟨(ad110.add ((x5_2).toNat * 7)).block, (ad110.add ((x5_2).toNat * 7)).off + 5, none⟩ = some (.bool ((rd_T29 l0 x5_2).f5)) ∧ w'.cell? ⟨(ad110.add ((x5_2).toNat * 7)).block, (ad110.add ((x5_2).toNat * 7)).off + 6, none⟩ = some (.slice A110_6 ((rd_T29 l0 x5_2).f6).length c110_6) ∧ w'.cell? (ad110.add ((x5_2).toNat * 7)) = some (.int .i64 ((rd_T29 l0 x5_2).f0)) ∧ w'.cell? ⟨(ad110.add ((x5_2).toNat * 7)).block, (ad110.add ((x5_2).toNat * 7)).off + 1, none⟩ = some (.string ((rd_T29 l0 x5_2).f1)) ∧ w'.cell? ⟨(ad110.add ((x5_2).toNat * 7)).block, (ad110.add ((x5_2).toNat * 7)).off + 2, none⟩ = some (.string ((rd_T29 l0 x5_2).f2)) ∧ w'.cell? ⟨(ad110.add ((x5_2).toNat * 7)).block, (ad110.add ((x5_2).toNat * 7)).off + 3, none⟩ = some (.int .i64 ((rd_T29 l0 x5_2).f3)) ∧ w'.cell? ⟨(ad110.add ((x5_2).toNat * 7)).block, (ad110.add ((x5_2).toNat * 7)).off + 4, none⟩ = some (.int .i64 ((rd_T29 l0 x5_2).f4)) ∧ w'.cell? ⟨(ad110.add ((x5_2).toNat * 7)).block, (ad110.add ((x5_2).toNat * 7)).off + 5, none⟩ = some (.bool ((rd_T29 l0 x5_2).f5)) ∧ w'.cell? ⟨(ad110.add ((x5_2).toNat * 7)).block, (ad110.add ((x5_2).toNat * 7)).off + 6, none⟩ = some (.slice A110_6 ((rd_T29 l0 x5_2).f6).length c110_6)) (ds := []) #[false, false, false, false, false, false, false, false, false, false, false, false, false, false, false, false, false, false, false, false, false, false, false, false, false] (by kernel_rfl) rfl rfl ⟨((HB.out.cell (World.block_lt_of_cell? w _ hw110_0)).trans hw110_0), ((HB.out.cell (World.block_lt_of_cell? w _ hw110_1)).trans hw110_1), ((HB.out.cell (World.block_lt_of_cell? w _ hw110_2)).trans hw110_2), ((HB.out.cell (World.block_lt_of_cell? w _ hw110_3)).trans hw110_3), ((HB.out.cell (World.block_lt_of_cell? w _ hw110_4)).trans hw110_4), ((HB.out.cell (World.block_lt_of_cell? w _ hw110_5)).trans hw110_5), ((HB.out.cell (World.block_lt_of_cell? w _ hw110_6)).trans hw110_6), ((HB.out.cell (World.block_lt_of_cell? w _ hw111_0)).trans hw111_0), ((HB.out.cell (World.block_lt_of_cell? w _ hw111_1)).trans hw111_1), ((HB.out.cell (World.block_lt_of_cell? w _ hw111_2)).trans hw111_2), ((HB.out.cell (World.block_lt_of_cell? w _ hw111_3)).trans hw111_3), ((HB.out.cell (World.block_lt_of_cell? w _ hw111_4)).trans hw111_4), ((HB.out.cell (World.block_lt_of_cell? w _ hw111_5)).trans hw111_5), ((HB.out.cell (World.block_lt_of_cell? w _ hw111_6)).trans hw111_6)⟩ (fun hHeld => ?_); refine with_tabW incipitlaw20_few.tab6 incipitlaw20_few.bits6 (fun HT_ HW_ => ?_)
                  generalize wr.drew = w9 at HB HR110_6 HR111_6 hx110_0 hx110_1 hx110_2 hx110_3 hx110_4 hx110_5 hx110_6 hx111_0 hx111_1 hx111_2 hx111_3 hx111_4 hx111_5 hx111_6 hHeld ⊢
                  refine pure_ (i := 0) (N := some 19) (v := ?_) (a' := ?_) #[true, false, false, false, false, false, false, false, false, false, false, false, false, false, false, false, false, false, false, false, false, false, false, false, false] rfl rfl (any_of HT_.out (by kernel_rfl)) (fun _ _ _ h => h) (Or.inl ⟨by rfl, ?_⟩) ?_ ?_
                  rotate_left
                  · intro w'
                    go_simp
                    with_reducible rfl
                  rotate_left
                  · simp only [Act.put, List.setIfInBounds_toArray, List.set_cons_zero, List.set_cons_succ, i64_w, i32_w]
                    rfl
                  refine pure_ (i := 1) (N := some 20) (v := ?_) (a' := ?_) #[true, true, false, false, false, false, false, false, false, false, false, false, false, false, false, false, false, false, false, false, false, false, false, false, false] rfl rfl (any_of HT_.out (by kernel_rfl)) (fun _ _ _ h => h) (Or.inl ⟨by rfl, ?_⟩) ?_ ?_
                  rotate_left
                  · intro w'
                    go_simp
                    with_reducible rfl
                  rotate_left
                  · simp only [Act.put, List.setIfInBounds_toArray, List.set_cons_zero, List.set_cons_succ, i64_w, i32_w]
                    rfl
                  refine pure_ (i := 2) (N := some 21) (v := ?_) (a' := ?_) #[true, true, true, false, false, false, false, false, false, false, false, false, false, false, false, false, false, false, false, false, false, false, false, false, false] rfl rfl (any_of HT_.out (by kernel_rfl)) (fun _ _ _ h => h) (Or.inl ⟨by rfl, ?_⟩) ?_ ?_
                  rotate_left
                  · intro w'
                    go_simp
                    with_reducible rfl
                  rotate_left
                  · simp only [Act.put, List.setIfInBounds_toArray, List.set_cons_zero, List.set_cons_succ, i64_w, i32_w]
                    rfl
                  refine pure_ (i := 3) (N := some 22) (v := ?_) (a' := ?_) #[true, true, true, true, false, false, false, false, false, false, false, false, false, false, false, false, false, false, false, false, false, false, false, false, false] rfl rfl (any_of HT_.out (by kernel_rfl)) (fun _ _ _ h => h) (Or.inl ⟨by rfl, ?_⟩) ?_ ?_
                  rotate_left
                  · intro w'
                    go_simp
                    with_reducible rfl
                  rotate_left
                  · simp only [Act.put, List.setIfInBounds_toArray, List.set_cons_zero, List.set_cons_succ, i64_w, i32_w]
                    rfl
                  refine pure_ (i := 6) (N := some 25) (v := ?_) (a' := ?_) #[true, true, true, true, false, false, true, false, false, false, false, false, false, false, false, false, false, false, false, false, false, false, false, false, false] rfl rfl (any_of HT_.out (by kernel_rfl)) (fun _ _ _ h => h) (Or.inl ⟨by rfl, ?_⟩) ?_ ?_
                  rotate_left
                  · intro w'
                    go_simp
                    with_reducible rfl
                  rotate_left
                  · simp only [Act.put, List.setIfInBounds_toArray, List.set_cons_zero, List.set_cons_succ, i64_w, i32_w]
                    rfl
                  refine pure_ (i := 7) (N := some 26) (v := ?_) (a' := ?_) #[true, true, true, true, false, false, true, true, false, false, false, false, false, false, false, false, false, false, false, false, false, false, false, false, false] rfl rfl (any_of HT_.out (by kernel_rfl)) (fun _ _ _ h => h) (Or.inl ⟨by rfl, ?_⟩) ?_ ?_
                  rotate_left
                  · intro w'
                    go_simp
                    with_reducible rfl
                  rotate_left
                  · simp only [Act.put, List.setIfInBounds_toArray, List.set_cons_zero, List.set_cons_succ, i64_w, i32_w]
                    rfl
                  refine pure_ (i := 8) (N := some 27) (v := ?_) (a' := ?_) #[true, true, true, true, false, false, true, true, true, false, false, false, false, false, false, false, false, false, false, false, false, false, false, false, false] rfl rfl (any_of HT_.out (by kernel_rfl)) (fun _ _ _ h => h) (Or.inl ⟨by rfl, ?_⟩) ?_ ?_
                  rotate_left
                  · intro w'
                    go_simp
                    with_reducible rfl
                  rotate_left
                  · simp only [Act.put, List.setIfInBounds_toArray, List.set_cons_zero, List.set_cons_succ, i64_w, i32_w]
                    rfl
                  refine pure_ (i := 9) (N := some 28) (v := ?_) (a' := ?_) #[true, true, true, true, false, false, true, true, true, true, false, false, false, false, false, false, false, false, false, false, false, false, false, false, false] rfl rfl (any_of HT_.out (by kernel_rfl)) (fun _ _ _ h => h) (Or.inl ⟨by rfl, ?_⟩) ?_ ?_
                  rotate_left
                  · intro w'
                    go_simp
                    with_reducible rfl
                  rotate_left
                  · simp only [Act.put, List.setIfInBounds_toArray, List.set_cons_zero, List.set_cons_succ, i64_w, i32_w]
                    rfl
                  refine take_ (i := 4) (N := some 23) (v := ?_) (a' := ?_) #[true, true, true, true, true, false, true, true, true, true, false, false, false, false, false, false, false, false, false, false, false, false, false, false, false] rfl rfl (take_ofW HT_.out HW_.out (by kernel_rfl)) (fun _ _ _ h => h) (Or.inl ⟨by rfl, ?_⟩) hHeld ?_ ?_
                  rotate_left
                  · rintro w' ⟨s0, s1, s2, s3, s4, s5, s6, s7, s8, s9, s10, s11, s12, s13⟩
                    go_simp
                    with_reducible rfl
                  rotate_left
                  · simp only [Act.put, List.setIfInBounds_toArray, List.set_cons_zero, List.set_cons_succ, i64_w, i32_w]
                    rfl
                  refine pure_ (i := 5) (N := some 24) (v := ?_) (a' := ?_) #[true, true, true, true, true, true, true, true, true, true, false, false, false, false, false, false, false, false, false, false, false, false, false, false, false] rfl rfl (any_of HT_.out (by kernel_rfl)) (fun _ _ _ h => h) (Or.inl ⟨by rfl, ?_⟩) ?_ ?_
                  rotate_left
                  · intro w'
                    go_simp
                    with_reducible rfl
                  rotate_left
                  · simp only [Act.put, List.setIfInBounds_toArray, List.set_cons_zero, List.set_cons_succ, i64_w, i32_w]
                    rfl
                  refine take_ (i := 10) (N := some 29) (v := ?_) (a' := ?_) #[true, true, true, true, true, true, true, true, true, true, true, false, false, false, false, false, false, false, false, false, false, false, false, false, false] rfl rfl (take_ofW HT_.out HW_.out (by kernel_rfl)) (fun _ _ _ h => h) (Or.inl ⟨by rfl, ?_⟩) hHeld ?_ ?_
                  rotate_left
                  · rintro w' ⟨s0, s1, s2, s3, s4, s5, s6, s7, s8, s9, s10, s11, s12, s13⟩
                    go_simp
                    with_reducible rfl
                  rotate_left
                  · simp only [Act.put, List.setIfInBounds_toArray, List.set_cons_zero, List.set_cons_succ, i64_w, i32_w]
                    rfl
                  refine pure_ (i := 11) (N := some 30) (v := ?_) (a' := ?_) #[true, true, true, true, true, true, true, true, true, true, true, true, false, false, false, false, false, false, false, false, false, false, false, false, false] rfl rfl (any_of HT_.out (by kernel_rfl)) (fun _ _ _ h => h) (Or.inl ⟨by rfl, ?_⟩) ?_ ?_
                  rotate_left
                  · intro w'
                    go_simp
                    with_reducible rfl
                  rotate_left
                  · simp only [Act.put, List.setIfInBounds_toArray, List.set_cons_zero, List.set_cons_succ, i64_w, i32_w]
                    rfl
                  refine pure_ (i := 12) (N := some 31) (v := ?_) (a' := ?_) #[true, true, true, true, true, true, true, true, true, true, true, true, true, false, false, false, false, false, false, false, false, false, false, false, false] rfl rfl (any_of HT_.out (by kernel_rfl)) (fun _ _ _ h => h) (Or.inl ⟨by rfl, ?_⟩) ?_ ?_
                  rotate_left
                  · intro w'
                    go_simp
                    with_reducible rfl
                  rotate_left
                  · simp only [Act.put, List.setIfInBounds_toArray, List.set_cons_zero, List.set_cons_succ, i64_w, i32_w]
                    rfl
                  refine pure_ (i := 13) (N := some 32) (v := ?_) (a' := ?_) #[true, true, true, true, true, true, true, true, true, true, true, true, true, true, false, false, false, false, false, false, false, false, false, false, false] rfl rfl (any_of HT_.out (by kernel_rfl)) (fun _ _ _ h => h) (Or.inl ⟨by rfl, ?_⟩) ?_ ?_
                  rotate_left
                  · intro w'
                    go_simp
                    with_reducible rfl
                  rotate_left
                  · simp only [Act.put, List.setIfInBounds_toArray, List.set_cons_zero, List.set_cons_succ, i64_w, i32_w]
                    rfl
                  refine pure_ (i := 14) (N := some 33) (v := ?_) (a' := ?_) #[true, true, true, true, true, true, true, true, true, true, true, true, true, true, true, false, false, false, false, false, false, false, false, false, false] rfl rfl (any_of HT_.out (by kernel_rfl)) (fun _ _ _ h => h) (Or.inl ⟨by rfl, ?_⟩) ?_ ?_
                  rotate_left
                  · intro w'
                    go_simp
                    with_reducible rfl
                  rotate_left
                  · simp only [Act.put, List.setIfInBounds_toArray, List.set_cons_zero, List.set_cons_succ, i64_w, i32_w]
                    rfl
                  refine pure_ (i := 15) (N := some 34) (v := undef) (a' := ?_) #[true, true, true, true, true, true, true, true, true, true, true, true, true, true, true, true, false, false, false, false, false, false, false, false, false] rfl rfl (any_of HT_.out (by kernel_rfl)) (fun _ _ _ h => h) (Or.inr ⟨by rfl, rfl⟩) ?_ ?_
                  rotate_left
                  · simp only [Act.put, List.setIfInBounds_toArray, List.set_cons_zero, List.set_cons_succ, i64_w, i32_w]
                    rfl
                  refine pure_ (i := 16) (N := some 35) (v := undef) (a' := ?_) #[true, true, true, true, true, true, true, true, true, true, true, true, true, true, true, true, true, false, false, false, false, false, false, false, false] rfl rfl (any_of HT_.out (by kernel_rfl)) (fun _ _ _ h => h) (Or.inr ⟨by rfl, rfl⟩) ?_ ?_
                  rotate_left
                  · simp only [Act.put, List.setIfInBounds_toArray, List.set_cons_zero, List.set_cons_succ, i64_w, i32_w]
                    rfl
                  refine pure_ (i := 17) (N := some 36) (v := undef) (a' := ?_) #[true, true, true, true, true, true, true, true, true, true, true, true, true, true, true, true, true, true, false, false, false, false, false, false, false] rfl rfl (any_of HT_.out (by kernel_rfl)) (fun _ _ _ h => h) (Or.inr ⟨by rfl, rfl⟩) ?_ ?_
                  rotate_left
                  · simp only [Act.put, List.setIfInBounds_toArray, List.set_cons_zero, List.set_cons_succ, i64_w, i32_w]
                    rfl
                  refine pure_ (i := 18) (N := some 37) (v := undef) (a' := ?_) #[true, true, true, true, true, true, true, true, true, true, true, true, true, true, true, true, true, true, true, false, false, false, false, false, false] rfl rfl (any_of HT_.out (by kernel_rfl)) (fun _ _ _ h => h) (Or.inr ⟨by rfl, rfl⟩) ?_ ?_
                  rotate_left
                  · simp only [Act.put, List.setIfInBounds_toArray, List.set_cons_zero, List.set_cons_succ, i64_w, i32_w]
                    rfl
                  refine pure_ (i := 19) (N := some 38) (v := undef) (a' := ?_) #[true, true, true, true, true, true, true, true, true, true, true, true, true, true, true, true, true, true, true, true, false, false, false, false, false] rfl rfl (any_of HT_.out (by kernel_rfl)) (fun _ _ _ h => h) (Or.inr ⟨by rfl, rfl⟩) ?_ ?_
                  rotate_left
                  · simp only [Act.put, List.setIfInBounds_toArray, List.set_cons_zero, List.set_cons_succ, i64_w, i32_w]
                    rfl
                  refine pure_ (i := 20) (N := some 39) (v := undef) (a' := ?_) #[true, true, true, true, true, true, true, true, true, true, true, true, true, true, true, true, true, true, true, true, true, false, false, false, false] rfl rfl (any_of HT_.out (by kernel_rfl)) (fun _ _ _ h => h) (Or.inr ⟨by rfl, rfl⟩) ?_ ?_
                  rotate_left
                  · simp only [Act.put, List.setIfInBounds_toArray, List.set_cons_zero, List.set_cons_succ, i64_w, i32_w]
                    rfl
                  refine pure_ (i := 21) (N := some 40) (v := undef) (a' := ?_) #[true, true, true, true, true, true, true, true, true, true, true, true, true, true, true, true, true, true, true, true, true, true, false, false, false] rfl rfl (any_of HT_.out (by kernel_rfl)) (fun _ _ _ h => h) (Or.inr ⟨by rfl, rfl⟩) ?_ ?_
                  rotate_left
                  · simp only [Act.put, List.setIfInBounds_toArray, List.set_cons_zero, List.set_cons_succ, i64_w, i32_w]
                    rfl
                  refine pure_ (i := 22) (N := some 41) (v := undef) (a' := ?_) #[true, true, true, true, true, true, true, true, true, true, true, true, true, true, true, true, true, true, true, true, true, true, true, false, false] rfl rfl (any_of HT_.out (by kernel_rfl)) (fun _ _ _ h => h) (Or.inr ⟨by rfl, rfl⟩) ?_ ?_
                  rotate_left
                  · simp only [Act.put, List.setIfInBounds_toArray, List.set_cons_zero, List.set_cons_succ, i64_w, i32_w]
                    rfl
                  refine pure_ (i := 23) (N := some 42) (v := undef) (a' := ?_) #[true, true, true, true, true, true, true, true, true, true, true, true, true, true, true, true, true, true, true, true, true, true, true, true, false] rfl rfl (any_of HT_.out (by kernel_rfl)) (fun _ _ _ h => h) (Or.inr ⟨by rfl, rfl⟩) ?_ ?_
                  rotate_left
                  · simp only [Act.put, List.setIfInBounds_toArray, List.set_cons_zero, List.set_cons_succ, i64_w, i32_w]
                    rfl
                  refine pure_ (i := 24) (N := some 43) (v := ?_) (a' := ?_) #[true, true, true, true, true, true, true, true, true, true, true, true, true, true, true, true, true, true, true, true, true, true, true, true, true] rfl rfl (any_of HT_.out (by kernel_rfl)) (fun _ _ _ h => h) (Or.inl ⟨by rfl, ?_⟩) ?_ ?_
                  rotate_left
                  · intro w'
                    go_simp
                    with_reducible rfl
                  rotate_left
                  · simp only [Act.put, List.setIfInBounds_toArray, List.set_cons_zero, List.set_cons_succ, i64_w, i32_w]
                    rfl
                  refine done_ (done_of HT_.out (by kernel_rfl)) ?_
                  try go_wp2
                  go_ret
                  exact ⟨by first | rfl | (simp [errW_none, errW_some] <;> rfl) | (simp [*, errW_none, errW_some] <;> rfl), by repeat (first | (with_reducible first | exact HB.out | apply below_alloc | apply pw_below_drewN | apply below_drew1) | exact HB.out)⟩
                · rw [if_neg c8] at H
                  have c8b0 : decide (100 < (wrap64 ((((rd_T29 l0 x5_2).f1).size : Int) + (((rd_T29 l0 x5_2).f2).size : Int)))) = false := decide_eq_false c8
                  clear c8
                  replace H := Option.bind_eq_some_iff.mp H
                  obtain ⟨t113, A100, H⟩ := H
                  replace H : (if t113 = true then (incipitlaw20_few.l0 k2 l0 a1 (wrap64 (x5_2 + 1))) else (some false)) = some r := H
                  have A10 := Aside0.mk A100
                  clear A100
                  by_cases c11 : t113 = true
                  · subst c11
                    have H1 : (incipitlaw20_few.l0 k2 l0 a1 (wrap64 (x5_2 + 1))) = some r := by rw [if_pos rfl] at H; exact H
                    clear H
                    have H := H1
                    clear H1
                    have H' := Aside0.mk H
                    clear H
                    try go_wp2
                    have n0_ := Aside0.mk (below_drew1 HB.out)
                    clear HB
                    have HB := n0_
                    clear n0_
                    have p110 : 0 ≤ (x5_2 : Int) := of_decide_eq_true (by first | (with_reducible assumption) | assumption)
                    have q110 : x5_2 < (l0.length : Int) := of_decide_eq_true (by first | (with_reducible assumption) | assumption)
                    obtain ⟨ad110, A110_6, c110_6, e110, hx110_0, hx110_1, hx110_2, hx110_3, hx110_4, hx110_5, hx110_6, hl110_6, hi110_6⟩ := at_T29 HR0.out x5_2 p110 q110
                    have hw110_6 := hx110_6
                    have hw110_5 := hx110_5
                    have hw110_4 := hx110_4
                    have hw110_3 := hx110_3
                    have hw110_2 := hx110_2
                    have hw110_1 := hx110_1
                    have hw110_0 := hx110_0
                    cases e110
                    replace hx110_0 := (HB.out.cell (World.block_lt_of_cell? w _ hx110_0)).trans hx110_0
                    replace hx110_1 := (HB.out.cell (World.block_lt_of_cell? w _ hx110_1)).trans hx110_1
                    replace hx110_2 := (HB.out.cell (World.block_lt_of_cell? w _ hx110_2)).trans hx110_2
                    replace hx110_3 := (HB.out.cell (World.block_lt_of_cell? w _ hx110_3)).trans hx110_3
                    replace hx110_4 := (HB.out.cell (World.block_lt_of_cell? w _ hx110_4)).trans hx110_4
                    replace hx110_5 := (HB.out.cell (World.block_lt_of_cell? w _ hx110_5)).trans hx110_5
                    replace hx110_6 := (HB.out.cell (World.block_lt_of_cell? w _ hx110_6)).trans hx110_6
                    have HR110_6 := Aside0.mk hi110_6
                    have HC110_6 := Aside0.mk hl110_6
                    clear hi110_6 hl110_6
                    replace p110 := eq_true p110
                    replace q110 := eq_true q110
                    have p111 : 0 ≤ (x5_2 : Int) := of_decide_eq_true (by first | (with_reducible assumption) | assumption)
                    have q111 : x5_2 < (l0.length : Int) := of_decide_eq_true (by first | (with_reducible assumption) | assumption)
                    obtain ⟨ad111, A111_6, c111_6, e111, hx111_0, hx111_1, hx111_2, hx111_3, hx111_4, hx111_5, hx111_6, hl111_6, hi111_6⟩ := at_T29 HR0.out x5_2 p111 q111
                    have hw111_6 := hx111_6
                    have hw111_5 := hx111_5
                    have hw111_4 := hx111_4
                    have hw111_3 := hx111_3
                    have hw111_2 := hx111_2
                    have hw111_1 := hx111_1
                    have hw111_0 := hx111_0
                    obtain rfl : ad110 = ad111 := (by injection e111)
                    replace hx111_0 := (HB.out.cell (World.block_lt_of_cell? w _ hx111_0)).trans hx111_0
                    replace hx111_1 := (HB.out.cell (World.block_lt_of_cell? w _ hx111_1)).trans hx111_1
                    replace hx111_2 := (HB.out.cell (World.block_lt_of_cell? w _ hx111_2)).trans hx111_2
                    replace hx111_3 := (HB.out.cell (World.block_lt_of_cell? w _ hx111_3)).trans hx111_3
                    replace hx111_4 := (HB.out.cell (World.block_lt_of_cell? w _ hx111_4)).trans hx111_4
                    replace hx111_5 := (HB.out.cell (World.block_lt_of_cell? w _ hx111_5)).trans hx111_5
                    replace hx111_6 := (HB.out.cell (World.block_lt_of_cell? w _ hx111_6)).trans hx111_6
                    have HR111_6 := Aside0.mk hi111_6
                    have HC111_6 := Aside0.mk hl111_6
                    clear hi111_6 hl111_6
                    replace p111 := eq_true p111
                    replace q111 := eq_true q111
                    have ea_ := Option.some.inj (hx110_6.symm.trans hx111_6)
                    injection ea_ with ea_ en_ ec_
                    subst ea_
                    subst ec_
                    clear en_
                    have p112 : 0 ≤ (x5_2 : Int) := of_decide_eq_true (by first | (with_reducible assumption) | assumption)
                    have q112 : x5_2 < (l0.length : Int) := of_decide_eq_true (by first | (with_reducible assumption) | assumption)
                    obtain ⟨ad112, A112_6, c112_6, e112, hx112_0, hx112_1, hx112_2, hx112_3, hx112_4, hx112_5, hx112_6, hl112_6, hi112_6⟩ := at_T29 HR0.out x5_2 p112 q112
                    have hw112_6 := hx112_6
                    have hw112_5 := hx112_5
                    have hw112_4 := hx112_4
                    have hw112_3 := hx112_3
                    have hw112_2 := hx112_2
                    have hw112_1 := hx112_1
                    have hw112_0 := hx112_0
                    obtain rfl : ad110 = ad112 := (by injection e112)
                    replace hx112_0 := (HB.out.cell (World.block_lt_of_cell? w _ hx112_0)).trans hx112_0
                    replace hx112_1 := (HB.out.cell (World.block_lt_of_cell? w _ hx112_1)).trans hx112_1
                    replace hx112_2 := (HB.out.cell (World.block_lt_of_cell? w _ hx112_2)).trans hx112_2
                    replace hx112_3 := (HB.out.cell (World.block_lt_of_cell? w _ hx112_3)).trans hx112_3
                    replace hx112_4 := (HB.out.cell (World.block_lt_of_cell? w _ hx112_4)).trans hx112_4
                    replace hx112_5 := (HB.out.cell (World.block_lt_of_cell? w _ hx112_5)).trans hx112_5
                    replace hx112_6 := (HB.out.cell (World.block_lt_of_cell? w _ hx112_6)).trans hx112_6
                    have HR112_6 := Aside0.mk hi112_6
                    have HC112_6 := Aside0.mk hl112_6
                    clear hi112_6 hl112_6
                    replace p112 := eq_true p112
                    replace q112 := eq_true q112
                    have ea_ := Option.some.inj (hx110_6.symm.trans hx112_6)
                    injection ea_ with ea_ en_ ec_
                    subst ea_
                    subst ec_
                    clear en_
                    refine start_ (n := 25) (S := fun w' => w'.cell? (ad110.add ((x5_2).toNat * 7)) = some (.int .i64 ((rd_T29 l0 x5_2).f0)) ∧ w'.cell? ⟨(ad110.add ((x5_2).toNat * 7)).block, (ad110.add ((x5_2).toNat * 7)).off + 1, none⟩ = some (.string ((rd_T29 l0 x5_2).f1)) ∧ w'.cell? ⟨(ad110.add ((x5_2).toNat * 7)).block, (ad110.add ((x5_2).toNat * 7)).off + 2, none⟩ = some (.string ((rd_T29 l0 x5_2).f2)) ∧ w'.cell? ⟨(ad110.add ((x5_2).toNat * 7)).block, (ad110.add ((x5_2).toNat * 7)).off + 3, none⟩ = some (.int .i64 ((rd_T29 l0 x5_2).f3)) ∧ w'.cell? ⟨(ad110.add ((x5_2).toNat * 7)).block, (ad110.add ((x5_2).toNat * 7)).off + 4, none⟩ = some (.int .i64 ((rd_T29 l0 x5_2).f4)) ∧ w'.cell? ⟨(ad110.add ((x5_2).toNat * 7)).block, (ad110.add ((x5_2).toNat * 7)).off + 5, none⟩ = some (.bool ((rd_T29 l0 x5_2).f5)) ∧ w'.cell? ⟨(ad110.add ((x5_2).toNat * 7)).block, (ad110.add ((x5_2).toNat * 7)).off + 6, none⟩ = some (.slice A110_6 ((rd_T29 l0 x5_2).f6).length c110_6) ∧ w'.cell? (ad110.add ((x5_2).toNat * 7)) = some (.int .i64 ((rd_T29 l0 x5_2).f0)) ∧ w'.cell? ⟨(ad110.add ((x5_2).toNat * 7)).block, (ad110.add ((x5_2).toNat * 7)).off + 1, none⟩ = some (.string ((rd_T29 l0 x5_2).f1)) ∧ w'.cell? ⟨(ad110.add ((x5_2).toNat * 7)).block, (ad110.add ((x5_2).toNat * 7)).off + 2, none⟩ = some (.string ((rd_T29 l0 x5_2).f2)) ∧ w'.cell? ⟨(ad110.add ((x5_2).toNat * 7)).block, (ad110.add ((x5_2).toNat * 7)).off + 3, none⟩ = some (.int .i64 ((rd_T29 l0 x5_2).f3)) ∧ w'.cell? ⟨(ad110.add ((x5_2).toNat * 7)).block, (ad110.add ((x5_2).toNat * 7)).off + 4, none⟩ = some (.int .i64 ((rd_T29 l0 x5_2).f4)) ∧ w'.cell? ⟨(ad110.add ((x5_2).toNat * 7)).block, (ad110.add ((x5_2).toNat * 7)).off + 5, none⟩ = some (.bool ((rd_T29 l0 x5_2).f5)) ∧ w'.cell? ⟨(ad110.add ((x5_2).toNat * 7)).block, (ad110.add ((x5_2).toNat * 7)).off + 6, none⟩ = some (.slice A110_6 ((rd_T29 l0 x5_2).f6).length c110_6) ∧ w'.cell? (ad110.add ((x5_2).toNat * 7)) = some (.int .i64 ((rd_T29 l0 x5_2).f0)) ∧ w'.cell? ⟨(ad110.add ((x5_2).toNat * 7)).block, (ad110.add ((x5_2).toNat * 7)).off + 1, none⟩ = some (.string ((rd_T29 l0 x5_2).f1)) ∧ w'.cell? ⟨(ad110.add ((x5_2).toNat * 7)).block, (ad110.add ((x5_2).toNat * 7)).off + 2, none⟩ = some (.string ((rd_T29 l0 x5_2).f2)) ∧ w'.cell? ⟨(ad110.add ((x5_2).toNat * 7)).block, (ad110.add ((x5_2).toNat * 7)).off + 3, none⟩ = some (.int .i64 ((rd_T29 l0 x5_2).f3)) ∧ w'.cell? ⟨(ad110.add ((x5_2).toNat * 7)).block, (ad110.add ((x5_2).toNat * 7)).off + 4, none⟩ = some (.int .i64 ((rd_T29 l0 x5_2).f4)) ∧ w'.cell? ⟨(ad110.add ((x5_2).toNat * 7)).block, (ad110.add ((x5_2).toNat * 7)).off + 5, none⟩ = some (.bool ((rd_T29 l0 x5_2).f5)) ∧ w'.cell? ⟨(ad110.add ((x5_2).toNat * 7)).block, (ad110.add ((x5_2).toNat * 7)).off + 6, none⟩ = some (.slice A110_6 ((rd_T29 l0 x5_2).f6).length c110_6)) (ds := []) #[false, false, false, false, false, false, false, false, false, false, false, false, false, false, false, false, false, false, false, false, false, false, false, false, false] (by kernel_rfl) rfl rfl ⟨((HB.out.cell (World.block_lt_of_cell? w _ hw110_0)).trans hw110_0), ((HB.out.cell (World.block_lt_of_cell? w _ hw110_1)).trans hw110_1), ((HB.out.cell (World.block_lt_of_cell? w _ hw110_2)).trans hw110_2), ((HB.out.cell (World.block_lt_of_cell? w _ hw110_3)).trans hw110_3), ((HB.out.cell (World.block_lt_of_cell? w _ hw110_4)).trans hw110_4), ((HB.out.cell (World.block_lt_of_cell? w _ hw110_5)).trans hw110_5), ((HB.out.cell (World.block_lt_of_cell? w _ hw110_6)).trans hw110_6), ((HB.out.cell (World.block_lt_of_cell? w _ hw111_0)).trans hw111_0), ((HB.out.cell (World.block_lt_of_cell? w _ hw111_1)).trans hw111_1), ((HB.out.cell (World.block_lt_of_cell? w _ hw111_2)).trans hw111_2), ((HB.out.cell (World.block_lt_of_cell? w _ hw111_3)).trans hw111_3), ((HB.out.cell (World.block_lt_of_cell? w _ hw111_4)).trans hw111_4), ((HB.out.cell (World.block_lt_of_cell? w _ hw111_5)).trans hw111_5), ((HB.out.cell (World.block_lt_of_cell? w _ hw111_6)).trans hw111_6), ((HB.out.cell (World.block_lt_of_cell? w _ hw112_0)).trans hw112_0), ((HB.out.cell (World.block_lt_of_cell? w _ hw112_1)).trans hw112_1), ((HB.out.cell (World.block_lt_of_cell? w _ hw112_2)).trans hw112_2), ((HB.out.cell (World.block_lt_of_cell? w _ hw112_3)).trans hw112_3), ((HB.out.cell (World.block_lt_of_cell? w _ hw112_4)).trans hw112_4), ((HB.out.cell (World.block_lt_of_cell? w _ hw112_5)).trans hw112_5), ((HB.out.cell (World.block_lt_of_cell? w _ hw112_6)).trans hw112_6)⟩ (fun hHeld => ?_); refine with_tabW incipitlaw20_few.tab6 incipitlaw20_few.bits6 (fun HT_ HW_ => ?_)
                    generalize wr.drew = w12 at HB HR110_6 HR111_6 HR112_6 hx110_0 hx110_1 hx110_2 hx110_3 hx110_4 hx110_5 hx110_6 hx111_0 hx111_1 hx111_2 hx111_3 hx111_4 hx111_5 hx111_6 hx112_0 hx112_1 hx112_2 hx112_3 hx112_4 hx112_5 hx112_6 hHeld ⊢
                    refine pure_ (i := 0) (N := some 19) (v := ?_) (a' := ?_) #[true, false, false, false, false, false, false, false, false, false, false, false, false, false, false, false, false, false, false, false, false, false, false, false, false] rfl rfl (any_of HT_.out (by kernel_rfl)) (fun _ _ _ h => h) (Or.inl ⟨by rfl, ?_⟩) ?_ ?_
                    rotate_left
                    · intro w'
                      go_simp
                      with_reducible rfl
                    rotate_left
                    · simp only [Act.put, List.setIfInBounds_toArray, List.set_cons_zero, List.set_cons_succ, i64_w, i32_w]
                      rfl
                    refine pure_ (i := 1) (N := some 20) (v := ?_) (a' := ?_) #[true, true, false, false, false, false, false, false, false, false, false, false, false, false, false, false, false, false, false, false, false, false, false, false, false] rfl rfl (any_of HT_.out (by kernel_rfl)) (fun _ _ _ h => h) (Or.inl ⟨by rfl, ?_⟩) ?_ ?_
                    rotate_left
                    · intro w'
                      go_simp
                      with_reducible rfl
                    rotate_left
                    · simp only [Act.put, List.setIfInBounds_toArray, List.set_cons_zero, List.set_cons_succ, i64_w, i32_w]
                      rfl
                    refine pure_ (i := 2) (N := some 21) (v := ?_) (a' := ?_) #[true, true, true, false, false, false, false, false, false, false, false, false, false, false, false, false, false, false, false, false, false, false, false, false, false] rfl rfl (any_of HT_.out (by kernel_rfl)) (fun _ _ _ h => h) (Or.inl ⟨by rfl, ?_⟩) ?_ ?_
                    rotate_left
                    · intro w'
                      go_simp
                      with_reducible rfl
                    rotate_left
                    · simp only [Act.put, List.setIfInBounds_toArray, List.set_cons_zero, List.set_cons_succ, i64_w, i32_w]
                      rfl
                    refine pure_ (i := 3) (N := some 22) (v := ?_) (a' := ?_) #[true, true, true, true, false, false, false, false, false, false, false, false, false, false, false, false, false, false, false, false, false, false, false, false, false] rfl rfl (any_of HT_.out (by kernel_rfl)) (fun _ _ _ h => h) (Or.inl ⟨by rfl, ?_⟩) ?_ ?_
                    rotate_left
                    · intro w'
                      go_simp
                      with_reducible rfl
                    rotate_left
                    · simp only [Act.put, List.setIfInBounds_toArray, List.set_cons_zero, List.set_cons_succ, i64_w, i32_w]
                      rfl
                    refine pure_ (i := 6) (N := some 25) (v := ?_) (a' := ?_) #[true, true, true, true, false, false, true, false, false, false, false, false, false, false, false, false, false, false, false, false, false, false, false, false, false] rfl rfl (any_of HT_.out (by kernel_rfl)) (fun _ _ _ h => h) (Or.inl ⟨by rfl, ?_⟩) ?_ ?_
                    rotate_left
                    · intro w'
                      go_simp
                      with_reducible rfl
                    rotate_left
                    · simp only [Act.put, List.setIfInBounds_toArray, List.set_cons_zero, List.set_cons_succ, i64_w, i32_w]
                      rfl
                    refine pure_ (i := 7) (N := some 26) (v := ?_) (a' := ?_) #[true, true, true, true, false, false, true, true, false, false, false, false, false, false, false, false, false, false, false, false, false, false, false, false, false] rfl rfl (any_of HT_.out (by kernel_rfl)) (fun _ _ _ h => h) (Or.inl ⟨by rfl, ?_⟩) ?_ ?_
                    rotate_left
                    · intro w'
                      go_simp
                      with_reducible rfl
                    rotate_left
                    · simp only [Act.put, List.setIfInBounds_toArray, List.set_cons_zero, List.set_cons_succ, i64_w, i32_w]
                      rfl
                    refine pure_ (i := 8) (N := some 27) (v := ?_) (a' := ?_) #[true, true, true, true, false, false, true, true, true, false, false, false, false, false, false, false, false, false, false, false, false, false, false, false, false] rfl rfl (any_of HT_.out (by kernel_rfl)) (fun _ _ _ h => h) (Or.inl ⟨by rfl, ?_⟩) ?_ ?_
                    rotate_left
                    · intro w'
                      go_simp
                      with_reducible rfl
                    rotate_left
                    · simp only [Act.put, List.setIfInBounds_toArray, List.set_cons_zero, List.set_cons_succ, i64_w, i32_w]
                      rfl
                    refine pure_ (i := 9) (N := some 28) (v := ?_) (a' := ?_) #[true, true, true, true, false, false, true, true, true, true, false, false, false, false, false, false, false, false, false, false, false, false, false, false, false] rfl rfl (any_of HT_.out (by kernel_rfl)) (fun _ _ _ h => h) (Or.inl ⟨by rfl, ?_⟩) ?_ ?_
                    rotate_left
                    · intro w'
                      go_simp
                      with_reducible rfl
                    rotate_left
                    · simp only [Act.put, List.setIfInBounds_toArray, List.set_cons_zero, List.set_cons_succ, i64_w, i32_w]
                      rfl
                    refine take_ (i := 4) (N := some 23) (v := ?_) (a' := ?_) #[true, true, true, true, true, false, true, true, true, true, false, false, false, false, false, false, false, false, false, false, false, false, false, false, false] rfl rfl (take_ofW HT_.out HW_.out (by kernel_rfl)) (fun _ _ _ h => h) (Or.inl ⟨by rfl, ?_⟩) hHeld ?_ ?_
                    rotate_left
                    · rintro w' ⟨s0, s1, s2, s3, s4, s5, s6, s7, s8, s9, s10, s11, s12, s13, s14, s15, s16, s17, s18, s19, s20⟩
                      go_simp
                      with_reducible rfl
                    rotate_left
                    · simp only [Act.put, List.setIfInBounds_toArray, List.set_cons_zero, List.set_cons_succ, i64_w, i32_w]
                      rfl
                    refine pure_ (i := 5) (N := some 24) (v := ?_) (a' := ?_) #[true, true, true, true, true, true, true, true, true, true, false, false, false, false, false, false, false, false, false, false, false, false, false, false, false] rfl rfl (any_of HT_.out (by kernel_rfl)) (fun _ _ _ h => h) (Or.inl ⟨by rfl, ?_⟩) ?_ ?_
                    rotate_left
                    · intro w'
                      go_simp
                      with_reducible rfl
                    rotate_left
                    · simp only [Act.put, List.setIfInBounds_toArray, List.set_cons_zero, List.set_cons_succ, i64_w, i32_w]
                      rfl
                    refine take_ (i := 10) (N := some 29) (v := ?_) (a' := ?_) #[true, true, true, true, true, true, true, true, true, true, true, false, false, false, false, false, false, false, false, false, false, false, false, false, false] rfl rfl (take_ofW HT_.out HW_.out (by kernel_rfl)) (fun _ _ _ h => h) (Or.inl ⟨by rfl, ?_⟩) hHeld ?_ ?_
                    rotate_left
                    · rintro w' ⟨s0, s1, s2, s3, s4, s5, s6, s7, s8, s9, s10, s11, s12, s13, s14, s15, s16, s17, s18, s19, s20⟩
                      go_simp
                      with_reducible rfl
                    rotate_left
                    · simp only [Act.put, List.setIfInBounds_toArray, List.set_cons_zero, List.set_cons_succ, i64_w, i32_w]
                      rfl
                    refine pure_ (i := 11) (N := some 30) (v := ?_) (a' := ?_) #[true, true, true, true, true, true, true, true, true, true, true, true, false, false, false, false, false, false, false, false, false, false, false, false, false] rfl rfl (any_of HT_.out (by kernel_rfl)) (fun _ _ _ h => h) (Or.inl ⟨by rfl, ?_⟩) ?_ ?_
                    rotate_left
                    · intro w'
                      go_simp
                      with_reducible rfl
                    rotate_left
                    · simp only [Act.put, List.setIfInBounds_toArray, List.set_cons_zero, List.set_cons_succ, i64_w, i32_w]
                      rfl
                    refine pure_ (i := 12) (N := some 31) (v := ?_) (a' := ?_) #[true, true, true, true, true, true, true, true, true, true, true, true, true, false, false, false, false, false, false, false, false, false, false, false, false] rfl rfl (any_of HT_.out (by kernel_rfl)) (fun _ _ _ h => h) (Or.inl ⟨by rfl, ?_⟩) ?_ ?_
                    rotate_left
                    · intro w'
                      go_simp
                      with_reducible rfl
                    rotate_left
                    · simp only [Act.put, List.setIfInBounds_toArray, List.set_cons_zero, List.set_cons_succ, i64_w, i32_w]
                      rfl
                    refine pure_ (i := 13) (N := some 32) (v := ?_) (a' := ?_) #[true, true, true, true, true, true, true, true, true, true, true, true, true, true, false, false, false, false, false, false, false, false, false, false, false] rfl rfl (any_of HT_.out (by kernel_rfl)) (fun _ _ _ h => h) (Or.inl ⟨by rfl, ?_⟩) ?_ ?_
                    rotate_left
                    · intro w'
                      go_simp
                      with_reducible rfl
                    rotate_left
                    · simp only [Act.put, List.setIfInBounds_toArray, List.set_cons_zero, List.set_cons_succ, i64_w, i32_w]
                      rfl
                    refine pure_ (i := 14) (N := some 33) (v := ?_) (a' := ?_) #[true, true, true, true, true, true, true, true, true, true, true, true, true, true, true, false, false, false, false, false, false, false, false, false, false] rfl rfl (any_of HT_.out (by kernel_rfl)) (fun _ _ _ h => h) (Or.inl ⟨by rfl, ?_⟩) ?_ ?_
                    rotate_left
                    · intro w'
                      go_simp
                      with_reducible rfl
                    rotate_left
                    · simp only [Act.put, List.setIfInBounds_toArray, List.set_cons_zero, List.set_cons_succ, i64_w, i32_w]
                      rfl
                    refine pure_ (i := 15) (N := some 34) (v := ?_) (a' := ?_) #[true, true, true, true, true, true, true, true, true, true, true, true, true, true, true, true, false, false, false, false, false, false, false, false, false] rfl rfl (any_of HT_.out (by kernel_rfl)) (fun _ _ _ h => h) (Or.inl ⟨by rfl, ?_⟩) ?_ ?_
                    rotate_left
                    · intro w'
                      go_simp
                      with_reducible rfl
                    rotate_left
                    · simp only [Act.put, List.setIfInBounds_toArray, List.set_cons_zero, List.set_cons_succ, i64_w, i32_w]
                      rfl
                    refine pure_ (i := 16) (N := some 35) (v := ?_) (a' := ?_) #[true, true, true, true, true, true, true, true, true, true, true, true, true, true, true, true, true, false, false, false, false, false, false, false, false] rfl rfl (any_of HT_.out (by kernel_rfl)) (fun _ _ _ h => h) (Or.inl ⟨by rfl, ?_⟩) ?_ ?_
                    rotate_left
                    · intro w'
                      go_simp
                      with_reducible rfl
                    rotate_left
                    · simp only [Act.put, List.setIfInBounds_toArray, List.set_cons_zero, List.set_cons_succ, i64_w, i32_w]
                      rfl
                    refine pure_ (i := 17) (N := some 36) (v := ?_) (a' := ?_) #[true, true, true, true, true, true, true, true, true, true, true, true, true, true, true, true, true, true, false, false, false, false, false, false, false] rfl rfl (any_of HT_.out (by kernel_rfl)) (fun _ _ _ h => h) (Or.inl ⟨by rfl, ?_⟩) ?_ ?_
                    rotate_left
                    · intro w'
                      go_simp
                      with_reducible rfl
                    rotate_left
                    · simp only [Act.put, List.setIfInBounds_toArray, List.set_cons_zero, List.set_cons_succ, i64_w, i32_w]
                      rfl
                    refine pure_ (i := 18) (N := some 37) (v := ?_) (a' := ?_) #[true, true, true, true, true, true, true, true, true, true, true, true, true, true, true, true, true, true, true, false, false, false, false, false, false] rfl rfl (any_of HT_.out (by kernel_rfl)) (fun _ _ _ h => h) (Or.inl ⟨by rfl, ?_⟩) ?_ ?_
                    rotate_left
                    · intro w'
                      go_simp
                      with_reducible rfl
                    rotate_left
                    · simp only [Act.put, List.setIfInBounds_toArray, List.set_cons_zero, List.set_cons_succ, i64_w, i32_w]
                      rfl
                    refine pure_ (i := 20) (N := some 39) (v := ?_) (a' := ?_) #[true, true, true, true, true, true, true, true, true, true, true, true, true, true, true, true, true, true, true, false, true, false, false, false, false] rfl rfl (any_of HT_.out (by kernel_rfl)) (fun _ _ _ h => h) (Or.inl ⟨by rfl, ?_⟩) ?_ ?_
                    rotate_left
                    · intro w'
                      go_simp
                      with_reducible rfl
                    rotate_left
                    · simp only [Act.put, List.setIfInBounds_toArray, List.set_cons_zero, List.set_cons_succ, i64_w, i32_w]
                      rfl
                    refine pure_ (i := 21) (N := some 40) (v := ?_) (a' := ?_) #[true, true, true, true, true, true, true, true, true, true, true, true, true, true, true, true, true, true, true, false, true, true, false, false, false] rfl rfl (any_of HT_.out (by kernel_rfl)) (fun _ _ _ h => h) (Or.inl ⟨by rfl, ?_⟩) ?_ ?_
                    rotate_left
                    · intro w'
                      go_simp
                      with_reducible rfl
                    rotate_left
                    · simp only [Act.put, List.setIfInBounds_toArray, List.set_cons_zero, List.set_cons_succ, i64_w, i32_w]
                      rfl
                    refine take_ (i := 19) (N := some 38) (v := ?_) (a' := ?_) #[true, true, true, true, true, true, true, true, true, true, true, true, true, true, true, true, true, true, true, true, true, true, false, false, false] rfl rfl (take_ofW HT_.out HW_.out (by kernel_rfl)) (fun _ _ _ h => h) (Or.inl ⟨by rfl, ?_⟩) hHeld ?_ ?_
                    rotate_left
                    · rintro w' ⟨s0, s1, s2, s3, s4, s5, s6, s7, s8, s9, s10, s11, s12, s13, s14, s15, s16, s17, s18, s19, s20⟩
                      go_simp
                      with_reducible rfl
                    rotate_left
                    · simp only [Act.put, List.setIfInBounds_toArray, List.set_cons_zero, List.set_cons_succ, i64_w, i32_w]
                      rfl
                    refine one_ (i := 22) (N := some 41) #[true, true, true, true, true, true, true, true, true, true, true, true, true, true, true, true, true, true, true, true, true, true, true, false, false] rfl rfl (one_of HT_.out (by kernel_rfl)) (by decide) (fun K hK => ?_)
                    refine goes_ Tryz.func16 (by kernel_rfl) rfl #[.slice A110_6 ((rd_T29 l0 x5_2).f6).length c110_6, .int .i64 (wrap64 (a1 + 1))] (by rfl) rfl rfl (by (try simp only [List.map_toArray, List.map_cons, List.map_nil]); first | done | rfl | (simp only [List.length_drop, List.length_take]; rfl)) ?_
                    with_reducible refine (ih k2 (by have := HJ2.out; have := HK2.out; omega) _ _ ((rd_T29 l0 x5_2).f6) (wrap64 (a1 + 1)) true _ ?side1 ?side2 A10.out).mono ?_
                    (case side1 => repeat (first | exact (Kd.C_below HR112_6.out HB.out) | (with_reducible refine Kd.C_alloc ?_ _) | (with_reducible refine Kd.C_drewN ?_ _) | (with_reducible refine Kd.C_drew ?_)))
                    (case side2 => exact HC112_6.out)
                    rintro e w13 ⟨rfl, hb⟩
                    refine ⟨_, rfl, ?_⟩
                    have n0_ := Aside0.mk (below_step (by repeat (first | (with_reducible first | exact HB.out | apply below_alloc | apply pw_below_drewN | apply below_drew1) | exact HB.out)) hb)
                    clear HB
                    have HB := n0_
                    clear n0_
                    (try clear hb)
                    (try clear hb2)
                    (try clear hk)
                    (try clear hi)
                    refine hK.out _ _ ⟨((HB.out.cell (World.block_lt_of_cell? w _ hw110_0)).trans hw110_0), ((HB.out.cell (World.block_lt_of_cell? w _ hw110_1)).trans hw110_1), ((HB.out.cell (World.block_lt_of_cell? w _ hw110_2)).trans hw110_2), ((HB.out.cell (World.block_lt_of_cell? w _ hw110_3)).trans hw110_3), ((HB.out.cell (World.block_lt_of_cell? w _ hw110_4)).trans hw110_4), ((HB.out.cell (World.block_lt_of_cell? w _ hw110_5)).trans hw110_5), ((HB.out.cell (World.block_lt_of_cell? w _ hw110_6)).trans hw110_6), ((HB.out.cell (World.block_lt_of_cell? w _ hw111_0)).trans hw111_0), ((HB.out.cell (World.block_lt_of_cell? w _ hw111_1)).trans hw111_1), ((HB.out.cell (World.block_lt_of_cell? w _ hw111_2)).trans hw111_2), ((HB.out.cell (World.block_lt_of_cell? w _ hw111_3)).trans hw111_3), ((HB.out.cell (World.block_lt_of_cell? w _ hw111_4)).trans hw111_4), ((HB.out.cell (World.block_lt_of_cell? w _ hw111_5)).trans hw111_5), ((HB.out.cell (World.block_lt_of_cell? w _ hw111_6)).trans hw111_6), ((HB.out.cell (World.block_lt_of_cell? w _ hw112_0)).trans hw112_0), ((HB.out.cell (World.block_lt_of_cell? w _ hw112_1)).trans hw112_1), ((HB.out.cell (World.block_lt_of_cell? w _ hw112_2)).trans hw112_2), ((HB.out.cell (World.block_lt_of_cell? w _ hw112_3)).trans hw112_3), ((HB.out.cell (World.block_lt_of_cell? w _ hw112_4)).trans hw112_4), ((HB.out.cell (World.block_lt_of_cell? w _ hw112_5)).trans hw112_5), ((HB.out.cell (World.block_lt_of_cell? w _ hw112_6)).trans hw112_6)⟩ (fun hHeld => ?_)
                    clear hK K
                    refine norm_ (a' := ?_) ?_ ?_
                    rotate_left
                    · show Act.put _ (some 41) _ = _
                      simp only [Act.put, List.setIfInBounds_toArray, List.set_cons_zero, List.set_cons_succ, i64_w, i32_w]
                      rfl
                    refine pure_ (i := 23) (N := some 42) (v := ?_) (a' := ?_) #[true, true, true, true, true, true, true, true, true, true, true, true, true, true, true, true, true, true, true, true, true, true, true, true, false] rfl rfl (any_of HT_.out (by kernel_rfl)) (fun _ _ _ h => h) (Or.inl ⟨by rfl, ?_⟩) ?_ ?_
                    rotate_left
                    · intro w'
                      go_simp
                      with_reducible rfl
                    rotate_left
                    · simp only [Act.put, List.setIfInBounds_toArray, List.set_cons_zero, List.set_cons_succ, i64_w, i32_w]
                      rfl
                    refine pure_ (i := 24) (N := some 43) (v := ?_) (a' := ?_) #[true, true, true, true, true, true, true, true, true, true, true, true, true, true, true, true, true, true, true, true, true, true, true, true, true] rfl rfl (any_of HT_.out (by kernel_rfl)) (fun _ _ _ h => h) (Or.inl ⟨by rfl, ?_⟩) ?_ ?_
                    rotate_left
                    · intro w'
                      go_simp
                      with_reducible rfl
                    rotate_left
                    · simp only [Act.put, List.setIfInBounds_toArray, List.set_cons_zero, List.set_cons_succ, i64_w, i32_w]
                      rfl
                    refine done_ (done_of HT_.out (by kernel_rfl)) ?_
                    try go_wp2
                    go_roundg k2
                    case measure => have := HJ2.out; have := HK2.out; omega
                    case rel => exact ⟨(wrap64 (x5_2 + 1)), (by first | rfl | (simp; done) | (simp [*]; done)), H', ⟨by have := HJ2.out; have := HK2.out; omega⟩, ⟨by repeat (first | (with_reducible first | exact HB.out | apply below_alloc | apply pw_below_drewN | apply below_drew1) | exact HB.out)⟩⟩
                  · replace c11 := Bool.eq_false_iff.mpr c11
                    subst c11
                    have H1 : (some false) = some r := by rw [if_neg (show ¬ (false = true) by decide)] at H; exact H
                    clear H
                    have H := H1
                    clear H1
                    obtain rfl := Option.some.inj H
                    try go_wp2
                    have n0_ := Aside0.mk (below_drew1 HB.out)
                    clear HB
                    have HB := n0_
                    clear n0_
                    have p110 : 0 ≤ (x5_2 : Int) := of_decide_eq_true (by first | (with_reducible assumption) | assumption)
                    have q110 : x5_2 < (l0.length : Int) := of_decide_eq_true (by first | (with_reducible assumption) | assumption)
                    obtain ⟨ad110, A110_6, c110_6, e110, hx110_0, hx110_1, hx110_2, hx110_3, hx110_4, hx110_5, hx110_6, hl110_6, hi110_6⟩ := at_T29 HR0.out x5_2 p110 q110
                    have hw110_6 := hx110_6
                    have hw110_5 := hx110_5
                    have hw110_4 := hx110_4
                    have hw110_3 := hx110_3
                    have hw110_2 := hx110_2
                    have hw110_1 := hx110_1
                    have hw110_0 := hx110_0
                    cases e110
                    replace hx110_0 := (HB.out.cell (World.block_lt_of_cell? w _ hx110_0)).trans hx110_0
                    replace hx110_1 := (HB.out.cell (World.block_lt_of_cell? w _ hx110_1)).trans hx110_1
                    replace hx110_2 := (HB.out.cell (World.block_lt_of_cell? w _ hx110_2)).trans hx110_2
                    replace hx110_3 := (HB.out.cell (World.block_lt_of_cell? w _ hx110_3)).trans hx110_3
                    replace hx110_4 := (HB.out.cell (World.block_lt_of_cell? w _ hx110_4)).trans hx110_4
                    replace hx110_5 := (HB.out.cell (World.block_lt_of_cell? w _ hx110_5)).trans hx110_5
                    replace hx110_6 := (HB.out.cell (World.block_lt_of_cell? w _ hx110_6)).trans hx110_6
                    have HR110_6 := Aside0.mk hi110_6
                    have HC110_6 := Aside0.mk hl110_6
                    clear hi110_6 hl110_6
                    replace p110 := eq_true p110
                    replace q110 := eq_true q110
                    have p111 : 0 ≤ (x5_2 : Int) := of_decide_eq_true (by first | (with_reducible assumption) | assumption)
                    have q111 : x5_2 < (l0.length : Int) := of_decide_eq_true (by first | (with_reducible assumption) | assumption)
                    obtain ⟨ad111, A111_6, c111_6, e111, hx111_0, hx111_1, hx111_2, hx111_3, hx111_4, hx111_5, hx111_6, hl111_6, hi111_6⟩ := at_T29 HR0.out x5_2 p111 q111
                    have hw111_6 := hx111_6
                    have hw111_5 := hx111_5
                    have hw111_4 := hx111_4
                    have hw111_3 := hx111_3
                    have hw111_2 := hx111_2
                    have hw111_1 := hx111_1
                    have hw111_0 := hx111_0
                    obtain rfl : ad110 = ad111 := (by injection e111)
                    replace hx111_0 := (HB.out.cell (World.block_lt_of_cell? w _ hx111_0)).trans hx111_0
                    replace hx111_1 := (HB.out.cell (World.block_lt_of_cell? w _ hx111_1)).trans hx111_1
                    replace hx111_2 := (HB.out.cell (World.block_lt_of_cell? w _ hx111_2)).trans hx111_2
                    replace hx111_3 := (HB.out.cell (World.block_lt_of_cell? w _ hx111_3)).trans hx111_3
                    replace hx111_4 := (HB.out.cell (World.block_lt_of_cell? w _ hx111_4)).trans hx111_4
                    replace hx111_5 := (HB.out.cell (World.block_lt_of_cell? w _ hx111_5)).trans hx111_5
                    replace hx111_6 := (HB.out.cell (World.block_lt_of_cell? w _ hx111_6)).trans hx111_6
                    have HR111_6 := Aside0.mk hi111_6
                    have HC111_6 := Aside0.mk hl111_6
                    clear hi111_6 hl111_6
                    replace p111 := eq_true p111
                    replace q111 := eq_true q111
                    have ea_ := Option.some.inj (hx110_6.symm.trans hx111_6)
                    injection ea_ with ea_ en_ ec_
                    subst ea_
                    subst ec_
                    clear en_
                    have p112 : 0 ≤ (x5_2 : Int) := of_decide_eq_true (by first | (with_reducible assumption) | assumption)
                    have q112 : x5_2 < (l0.length : Int) := of_decide_eq_true (by first | (with_reducible assumption) | assumption)
                    obtain ⟨ad112, A112_6, c112_6, e112, hx112_0, hx112_1, hx112_2, hx112_3, hx112_4, hx112_5, hx112_6, hl112_6, hi112_6⟩ := at_T29 HR0.out x5_2 p112 q112
                    have hw112_6 := hx112_6
                    have hw112_5 := hx112_5
                    have hw112_4 := hx112_4
                    have hw112_3 := hx112_3
                    have hw112_2 := hx112_2
                    have hw112_1 := hx112_1
                    have hw112_0 := hx112_0
                    obtain rfl : ad110 = ad112 := (by injection e112)
                    replace hx112_0 := (HB.out.cell (World.block_lt_of_cell? w _ hx112_0)).trans hx112_0
                    replace hx112_1 := (HB.out.cell (World.block_lt_of_cell? w _ hx112_1)).trans hx112_1
                    replace hx112_2 := (HB.out.cell (World.block_lt_of_cell? w _ hx112_2)).trans hx112_2
                    replace hx112_3 := (HB.out.cell (World.block_lt_of_cell? w _ hx112_3)).trans hx112_3
                    replace hx112_4 := (HB.out.cell (World.block_lt_of_cell? w _ hx112_4)).trans hx112_4
                    replace hx112_5 := (HB.out.cell (World.block_lt_of_cell? w _ hx112_5)).trans hx112_5
                    replace hx112_6 := (HB.out.cell (World.block_lt_of_cell? w _ hx112_6)).trans hx112_6
                    have HR112_6 := Aside0.mk hi112_6
                    have HC112_6 := Aside0.mk hl112_6
                    clear hi112_6 hl112_6
                    replace p112 := eq_true p112
                    replace q112 := eq_true q112
                    have ea_ := Option.some.inj (hx110_6.symm.trans hx112_6)
                    injection ea_ with ea_ en_ ec_
                    subst ea_
                    subst ec_
                    clear en_
                    refine start_ (n := 25) (S := fun w' => w'.cell? (ad110.add ((x5_2).toNat * 7)) = some (.int .i64 ((rd_T29 l0 x5_2).f0)) ∧ w'.cell? ⟨(ad110.add ((x5_2).toNat * 7)).block, (ad110.add ((x5_2).toNat * 7)).off + 1, none⟩ = some (.string ((rd_T29 l0 x5_2).f1)) ∧ w'.cell? ⟨(ad110.add ((x5_2).toNat * 7)).block, (ad110.add ((x5_2).toNat * 7)).off + 2, none⟩ = some (.string ((rd_T29 l0 x5_2).f2)) ∧ w'.cell? ⟨(ad110.add ((x5_2).toNat * 7)).block, (ad110.add ((x5_2).toNat * 7)).off + 3, none⟩ = some (.int .i64 ((rd_T29 l0 x5_2).f3)) ∧ w'.cell? ⟨(ad110.add ((x5_2).toNat * 7)).block, (ad110.add ((x5_2).toNat * 7)).off + 4, none⟩ = some (.int .i64 ((rd_T29 l0 x5_2).f4)) ∧ w'.cell? ⟨(ad110.add ((x5_2).toNat * 7)).block, (ad110.add ((x5_2).toNat * 7)).off + 5, none⟩ = some (.bool ((rd_T29 l0 x5_2).f5)) ∧ w'.cell? ⟨(ad110.add ((x5_2).toNat * 7)).block, (ad110.add ((x5_2).toNat * 7)).off + 6, none⟩ = some (.slice A110_6 ((rd_T29 l0 x5_2).f6).length c110_6) ∧ w'.cell? (ad110.add ((x5_2).toNat * 7)) = some (.int .i64 ((rd_T29 l0 x5_2).f0)) ∧ w'.cell? ⟨(ad110.add ((x5_2).toNat * 7)).block, (ad110.add ((x5_2).toNat * 7)).off + 1, none⟩ = some (.string ((rd_T29 l0 x5_2).f1)) ∧ w'.cell? ⟨(ad110.add ((x5_2).toNat * 7)).block, (ad110.add ((x5_2).toNat * 7)).off + 2, none⟩ = some (.string ((rd_T29 l0 x5_2).f2)) ∧ w'.cell? ⟨(ad110.add ((x5_2).toNat * 7)).block, (ad110.add ((x5_2).toNat * 7)).off + 3, none⟩ = some (.int .i64 ((rd_T29 l0 x5_2).f3)) ∧ w'.cell? ⟨(ad110.add ((x5_2).toNat * 7)).block, (ad110.add ((x5_2).toNat * 7)).off + 4, none⟩ = some (.int .i64 ((rd_T29 l0 x5_2).f4)) ∧ w'.cell? ⟨(ad110.add ((x5_2).toNat * 7)).block, (ad110.add ((x5_2).toNat * 7)).off + 5, none⟩ = some (.bool ((rd_T29 l0 x5_2).f5)) ∧ w'.cell? ⟨(ad110.add ((x5_2).toNat * 7)).block, (ad110.add ((x5_2).toNat * 7)).off + 6, none⟩ = some (.slice A110_6 ((rd_T29 l0 x5_2).f6).length c110_6) ∧ w'.cell? (ad110.add ((x5_2).toNat * 7)) = some (.int .i64 ((rd_T29 l0 x5_2).f0)) ∧ w'.cell? ⟨(ad110.add ((x5_2).toNat * 7)).block, (ad110.add ((x5_2).toNat * 7)).off + 1, none⟩ = some (.string ((rd_T29 l0 x5_2).f1)) ∧ w'.cell? ⟨(ad110.add ((x5_2).toNat * 7)).block, (ad110.add ((x5_2).toNat * 7)).off + 2, none⟩ = some (.string ((rd_T29 l0 x5_2).f2)) ∧ w'.cell? ⟨(ad110.add ((x5_2).toNat * 7)).block, (ad110.add ((x5_2).toNat * 7)).off + 3, none⟩ = some (.int .i64 ((rd_T29 l0 x5_2).f3)) ∧ w'.cell? ⟨(ad110.add ((x5_2).toNat * 7)).block, (ad110.add ((x5_2).toNat * 7)).off + 4, none⟩ = some (.int .i64 ((rd_T29 l0 x5_2).f4)) ∧ w'.cell? ⟨(ad110.add ((x5_2).toNat * 7)).block, (ad110.add ((x5_2).toNat * 7)).off + 5, none⟩ = some (.bool ((rd_T29 l0 x5_2).f5)) ∧ w'.cell? ⟨(ad110.add ((x5_2).toNat * 7)).block, (ad110.add ((x5_2).toNat * 7)).off + 6, none⟩ = some (.slice A110_6 ((rd_T29 l0 x5_2).f6).length c110_6)) (ds := []) #[false, false, false, false, false, false, false, false, false, false, false, false, false, false, false, false, false, false, false, false, false, false, false, false, false] (by kernel_rfl) rfl rfl ⟨((HB.out.cell (World.block_lt_of_cell? w _ hw110_0)).trans hw110_0), ((HB.out.cell (World.block_lt_of_cell? w _ hw110_1)).trans hw110_1), ((HB.out.cell (World.block_lt_of_cell? w _ hw110_2)).trans hw110_2), ((HB.out.cell (World.block_lt_of_cell? w _ hw110_3)).trans hw110_3), ((HB.out.cell (World.block_lt_of_cell? w _ hw110_4)).trans hw110_4), ((HB.out.cell (World.block_lt_of_cell? w _ hw110_5)).trans hw110_5), ((HB.out.cell (World.block_lt_of_cell? w _ hw110_6)).trans hw110_6), ((HB.out.cell (World.block_lt_of_cell? w _ hw111_0)).trans hw111_0), ((HB.out.cell (World.block_lt_of_cell? w _ hw111_1)).trans hw111_1), ((HB.out.cell (World.block_lt_of_cell? w _ hw111_2)).trans hw111_2), ((HB.out.cell (World.block_lt_of_cell? w _ hw111_3)).trans hw111_3), ((HB.out.cell (World.block_lt_of_cell? w _ hw111_4)).trans hw111_4), ((HB.out.cell (World.block_lt_of_cell? w _ hw111_5)).trans hw111_5), ((HB.out.cell (World.block_lt_of_cell? w _ hw111_6)).trans hw111_6), ((HB.out.cell (World.block_lt_of_cell? w _ hw112_0)).trans hw112_0), ((HB.out.cell (World.block_lt_of_cell? w _ hw112_1)).trans hw112_1), ((HB.out.cell (World.block_lt_of_cell? w _ hw112_2)).trans hw112_2), ((HB.out.cell (World.block_lt_of_cell? w _ hw112_3)).trans hw112_3), ((HB.out.cell (World.block_lt_of_cell? w _ hw112_4)).trans hw112_4), ((HB.out.cell (World.block_lt_of_cell? w _ hw112_5)).trans hw112_5), ((HB.out.cell (World.block_lt_of_cell? w _ hw112_6)).trans hw112_6)⟩ (fun hHeld => ?_); refine with_tabW incipitlaw20_few.tab6 incipitlaw20_few.bits6 (fun HT_ HW_ => ?_)
                    generalize wr.drew = w14 at HB HR110_6 HR111_6 HR112_6 hx110_0 hx110_1 hx110_2 hx110_3 hx110_4 hx110_5 hx110_6 hx111_0 hx111_1 hx111_2 hx111_3 hx111_4 hx111_5 hx111_6 hx112_0 hx112_1 hx112_2 hx112_3 hx112_4 hx112_5 hx112_6 hHeld ⊢
                    refine pure_ (i := 0) (N := some 19) (v := ?_) (a' := ?_) #[true, false, false, false, false, false, false, false, false, false, false, false, false, false, false, false, false, false, false, false, false, false, false, false, false] rfl rfl (any_of HT_.out (by kernel_rfl)) (fun _ _ _ h => h) (Or.inl ⟨by rfl, ?_⟩) ?_ ?_
                    rotate_left
                    · intro w'
                      go_simp
                      with_reducible rfl
                    rotate_left
                    · simp only [Act.put, List.setIfInBounds_toArray, List.set_cons_zero, List.set_cons_succ, i64_w, i32_w]
                      rfl
                    refine pure_ (i := 1) (N := some 20) (v := ?_) (a' := ?_) #[true, true, false, false, false, false, false, false, false, false, false, false, false, false, false, false, false, false, false, false, false, false, false, false, false] rfl rfl (any_of HT_.out (by kernel_rfl)) (fun _ _ _ h => h) (Or.inl ⟨by rfl, ?_⟩) ?_ ?_
                    rotate_left
                    · intro w'
                      go_simp
                      with_reducible rfl
                    rotate_left
                    · simp only [Act.put, List.setIfInBounds_toArray, List.set_cons_zero, List.set_cons_succ, i64_w, i32_w]
                      rfl
                    refine pure_ (i := 2) (N := some 21) (v := ?_) (a' := ?_) #[true, true, true, false, false, false, false, false, false, false, false, false, false, false, false, false, false, false, false, false, false, false, false, false, false] rfl rfl (any_of HT_.out (by kernel_rfl)) (fun _ _ _ h => h) (Or.inl ⟨by rfl, ?_⟩) ?_ ?_
                    rotate_left
                    · intro w'
                      go_simp
                      with_reducible rfl
                    rotate_left
                    · simp only [Act.put, List.setIfInBounds_toArray, List.set_cons_zero, List.set_cons_succ, i64_w, i32_w]
                      rfl
                    refine pure_ (i := 3) (N := some 22) (v := ?_) (a' := ?_) #[true, true, true, true, false, false, false, false, false, false, false, false, false, false, false, false, false, false, false, false, false, false, false, false, false] rfl rfl (any_of HT_.out (by kernel_rfl)) (fun _ _ _ h => h) (Or.inl ⟨by rfl, ?_⟩) ?_ ?_
                    rotate_left
                    · intro w'
                      go_simp
                      with_reducible rfl
                    rotate_left
                    · simp only [Act.put, List.setIfInBounds_toArray, List.set_cons_zero, List.set_cons_succ, i64_w, i32_w]
                      rfl
                    refine pure_ (i := 6) (N := some 25) (v := ?_) (a' := ?_) #[true, true, true, true, false, false, true, false, false, false, false, false, false, false, false, false, false, false, false, false, false, false, false, false, false] rfl rfl (any_of HT_.out (by kernel_rfl)) (fun _ _ _ h => h) (Or.inl ⟨by rfl, ?_⟩) ?_ ?_
                    rotate_left
                    · intro w'
                      go_simp
                      with_reducible rfl
                    rotate_left
                    · simp only [Act.put, List.setIfInBounds_toArray, List.set_cons_zero, List.set_cons_succ, i64_w, i32_w]
                      rfl
                    refine pure_ (i := 7) (N := some 26) (v := ?_) (a' := ?_) #[true, true, true, true, false, false, true, true, false, false, false, false, false, false, false, false, false, false, false, false, false, false, false, false, false] rfl rfl (any_of HT_.out (by kernel_rfl)) (fun _ _ _ h => h) (Or.inl ⟨by rfl, ?_⟩) ?_ ?_
                    rotate_left
                    · intro w'
                      go_simp
                      with_reducible rfl
                    rotate_left
                    · simp only [Act.put, List.setIfInBounds_toArray, List.set_cons_zero, List.set_cons_succ, i64_w, i32_w]
                      rfl
                    refine pure_ (i := 8) (N := some 27) (v := ?_) (a' := ?_) #[true, true, true, true, false, false, true, true, true, false, false, false, false, false, false, false, false, false, false, false, false, false, false, false, false] rfl rfl (any_of HT_.out (by kernel_rfl)) (fun _ _ _ h => h) (Or.inl ⟨by rfl, ?_⟩) ?_ ?_
                    rotate_left
                    · intro w'
                      go_simp
                      with_reducible rfl
                    rotate_left
                    · simp only [Act.put, List.setIfInBounds_toArray, List.set_cons_zero, List.set_cons_succ, i64_w, i32_w]
                      rfl
                    refine pure_ (i := 9) (N := some 28) (v := ?_) (a' := ?_) #[true, true, true, true, false, false, true, true, true, true, false, false, false, false, false, false, false, false, false, false, false, false, false, false, false] rfl rfl (any_of HT_.out (by kernel_rfl)) (fun _ _ _ h => h) (Or.inl ⟨by rfl, ?_⟩) ?_ ?_
                    rotate_left
                    · intro w'
                      go_simp
                      with_reducible rfl
                    rotate_left
                    · simp only [Act.put, List.setIfInBounds_toArray, List.set_cons_zero, List.set_cons_succ, i64_w, i32_w]
                      rfl
                    refine take_ (i := 4) (N := some 23) (v := ?_) (a' := ?_) #[true, true, true, true, true, false, true, true, true, true, false, false, false, false, false, false, false, false, false, false, false, false, false, false, false] rfl rfl (take_ofW HT_.out HW_.out (by kernel_rfl)) (fun _ _ _ h => h) (Or.inl ⟨by rfl, ?_⟩) hHeld ?_ ?_
                    rotate_left
                    · rintro w' ⟨s0, s1, s2, s3, s4, s5, s6, s7, s8, s9, s10, s11, s12, s13, s14, s15, s16, s17, s18, s19, s20⟩
                      go_simp
                      with_reducible rfl
                    rotate_left
                    · simp only [Act.put, List.setIfInBounds_toArray, List.set_cons_zero, List.set_cons_succ, i64_w, i32_w]
                      rfl
                    refine pure_ (i := 5) (N := some 24) (v := ?_) (a' := ?_) #[true, true, true, true, true, true, true, true, true, true, false, false, false, false, false, false, false, false, false, false, false, false, false, false, false] rfl rfl (any_of HT_.out (by kernel_rfl)) (fun _ _ _ h => h) (Or.inl ⟨by rfl, ?_⟩) ?_ ?_
                    rotate_left
                    · intro w'
                      go_simp
                      with_reducible rfl
                    rotate_left
                    · simp only [Act.put, List.setIfInBounds_toArray, List.set_cons_zero, List.set_cons_succ, i64_w, i32_w]
                      rfl
                    refine take_ (i := 10) (N := some 29) (v := ?_) (a' := ?_) #[true, true, true, true, true, true, true, true, true, true, true, false, false, false, false, false, false, false, false, false, false, false, false, false, false] rfl rfl (take_ofW HT_.out HW_.out (by kernel_rfl)) (fun _ _ _ h => h) (Or.inl ⟨by rfl, ?_⟩) hHeld ?_ ?_
                    rotate_left
                    · rintro w' ⟨s0, s1, s2, s3, s4, s5, s6, s7, s8, s9, s10, s11, s12, s13, s14, s15, s16, s17, s18, s19, s20⟩
                      go_simp
                      with_reducible rfl
                    rotate_left
                    · simp only [Act.put, List.setIfInBounds_toArray, List.set_cons_zero, List.set_cons_succ, i64_w, i32_w]
                      rfl
                    refine pure_ (i := 11) (N := some 30) (v := ?_) (a' := ?_) #[true, true, true, true, true, true, true, true, true, true, true, true, false, false, false, false, false, false, false, false, false, false, false, false, false] rfl rfl (any_of HT_.out (by kernel_rfl)) (fun _ _ _ h => h) (Or.inl ⟨by rfl, ?_⟩) ?_ ?_
                    rotate_left
                    · intro w'
                      go_simp
                      with_reducible rfl
                    rotate_left
                    · simp only [Act.put, List.setIfInBounds_toArray, List.set_cons_zero, List.set_cons_succ, i64_w, i32_w]
                      rfl
                    refine pure_ (i := 12) (N := some 31) (v := ?_) (a' := ?_) #[true, true, true, true, true, true, true, true, true, true, true, true, true, false, false, false, false, false, false, false, false, false, false, false, false] rfl rfl (any_of HT_.out (by kernel_rfl)) (fun _ _ _ h => h) (Or.inl ⟨by rfl, ?_⟩) ?_ ?_
                    rotate_left
                    · intro w'
                      go_simp
                      with_reducible rfl
                    rotate_left
                    · simp only [Act.put, List.setIfInBounds_toArray, List.set_cons_zero, List.set_cons_succ, i64_w, i32_w]
                      rfl
                    refine pure_ (i := 13) (N := some 32) (v := ?_) (a' := ?_) #[true, true, true, true, true, true, true, true, true, true, true, true, true, true, false, false, false, false, false, false, false, false, false, false, false] rfl rfl (any_of HT_.out (by kernel_rfl)) (fun _ _ _ h => h) (Or.inl ⟨by rfl, ?_⟩) ?_ ?_
                    rotate_left
                    · intro w'
                      go_simp
                      with_reducible rfl
                    rotate_left
                    · simp only [Act.put, List.setIfInBounds_toArray, List.set_cons_zero, List.set_cons_succ, i64_w, i32_w]
                      rfl
                    refine pure_ (i := 14) (N := some 33) (v := ?_) (a' := ?_) #[true, true, true, true, true, true, true, true, true, true, true, true, true, true, true, false, false, false, false, false, false, false, false, false, false] rfl rfl (any_of HT_.out (by kernel_rfl)) (fun _ _ _ h => h) (Or.inl ⟨by rfl, ?_⟩) ?_ ?_
                    rotate_left
                    · intro w'
                      go_simp
                      with_reducible rfl
                    rotate_left
                    · simp only [Act.put, List.setIfInBounds_toArray, List.set_cons_zero, List.set_cons_succ, i64_w, i32_w]
                      rfl
                    refine pure_ (i := 15) (N := some 34) (v := ?_) (a' := ?_) #[true, true, true, true, true, true, true, true, true, true, true, true, true, true, true, true, false, false, false, false, false, false, false, false, false] rfl rfl (any_of HT_.out (by kernel_rfl)) (fun _ _ _ h => h) (Or.inl ⟨by rfl, ?_⟩) ?_ ?_
                    rotate_left
                    · intro w'
                      go_simp
                      with_reducible rfl
                    rotate_left
                    · simp only [Act.put, List.setIfInBounds_toArray, List.set_cons_zero, List.set_cons_succ, i64_w, i32_w]
                      rfl
                    refine pure_ (i := 16) (N := some 35) (v := ?_) (a' := ?_) #[true, true, true, true, true, true, true, true, true, true, true, true, true, true, true, true, true, false, false, false, false, false, false, false, false] rfl rfl (any_of HT_.out (by kernel_rfl)) (fun _ _ _ h => h) (Or.inl ⟨by rfl, ?_⟩) ?_ ?_
                    rotate_left
                    · intro w'
                      go_simp
                      with_reducible rfl
                    rotate_left
                    · simp only [Act.put, List.setIfInBounds_toArray, List.set_cons_zero, List.set_cons_succ, i64_w, i32_w]
                      rfl
                    refine pure_ (i := 17) (N := some 36) (v := ?_) (a' := ?_) #[true, true, true, true, true, true, true, true, true, true, true, true, true, true, true, true, true, true, false, false, false, false, false, false, false] rfl rfl (any_of HT_.out (by kernel_rfl)) (fun _ _ _ h => h) (Or.inl ⟨by rfl, ?_⟩) ?_ ?_
                    rotate_left
                    · intro w'
                      go_simp
                      with_reducible rfl
                    rotate_left
                    · simp only [Act.put, List.setIfInBounds_toArray, List.set_cons_zero, List.set_cons_succ, i64_w, i32_w]
                      rfl
                    refine pure_ (i := 18) (N := some 37) (v := ?_) (a' := ?_) #[true, true, true, true, true, true, true, true, true, true, true, true, true, true, true, true, true, true, true, false, false, false, false, false, false] rfl rfl (any_of HT_.out (by kernel_rfl)) (fun _ _ _ h => h) (Or.inl ⟨by rfl, ?_⟩) ?_ ?_
                    rotate_left
                    · intro w'
                      go_simp
                      with_reducible rfl
                    rotate_left
                    · simp only [Act.put, List.setIfInBounds_toArray, List.set_cons_zero, List.set_cons_succ, i64_w, i32_w]
                      rfl
                    refine pure_ (i := 20) (N := some 39) (v := ?_) (a' := ?_) #[true, true, true, true, true, true, true, true, true, true, true, true, true, true, true, true, true, true, true, false, true, false, false, false, false] rfl rfl (any_of HT_.out (by kernel_rfl)) (fun _ _ _ h => h) (Or.inl ⟨by rfl, ?_⟩) ?_ ?_
                    rotate_left
                    · intro w'
                      go_simp
                      with_reducible rfl
                    rotate_left
                    · simp only [Act.put, List.setIfInBounds_toArray, List.set_cons_zero, List.set_cons_succ, i64_w, i32_w]
                      rfl
                    refine pure_ (i := 21) (N := some 40) (v := ?_) (a' := ?_) #[true, true, true, true, true, true, true, true, true, true, true, true, true, true, true, true, true, true, true, false, true, true, false, false, false] rfl rfl (any_of HT_.out (by kernel_rfl)) (fun _ _ _ h => h) (Or.inl ⟨by rfl, ?_⟩) ?_ ?_
                    rotate_left
                    · intro w'
                      go_simp
                      with_reducible rfl
                    rotate_left
                    · simp only [Act.put, List.setIfInBounds_toArray, List.set_cons_zero, List.set_cons_succ, i64_w, i32_w]
                      rfl
                    refine take_ (i := 19) (N := some 38) (v := ?_) (a' := ?_) #[true, true, true, true, true, true, true, true, true, true, true, true, true, true, true, true, true, true, true, true, true, true, false, false, false] rfl rfl (take_ofW HT_.out HW_.out (by kernel_rfl)) (fun _ _ _ h => h) (Or.inl ⟨by rfl, ?_⟩) hHeld ?_ ?_
                    rotate_left
                    · rintro w' ⟨s0, s1, s2, s3, s4, s5, s6, s7, s8, s9, s10, s11, s12, s13, s14, s15, s16, s17, s18, s19, s20⟩
                      go_simp
                      with_reducible rfl
                    rotate_left
                    · simp only [Act.put, List.setIfInBounds_toArray, List.set_cons_zero, List.set_cons_succ, i64_w, i32_w]
                      rfl
                    refine one_ (i := 22) (N := some 41) #[true, true, true, true, true, true, true, true, true, true, true, true, true, true, true, true, true, true, true, true, true, true, true, false, false] rfl rfl (one_of HT_.out (by kernel_rfl)) (by decide) (fun K hK => ?_)
                    refine goes_ Tryz.func16 (by kernel_rfl) rfl #[.slice A110_6 ((rd_T29 l0 x5_2).f6).length c110_6, .int .i64 (wrap64 (a1 + 1))] (by rfl) rfl rfl (by (try simp only [List.map_toArray, List.map_cons, List.map_nil]); first | done | rfl | (simp only [List.length_drop, List.length_take]; rfl)) ?_
                    with_reducible refine (ih k2 (by have := HJ2.out; have := HK2.out; omega) _ _ ((rd_T29 l0 x5_2).f6) (wrap64 (a1 + 1)) false _ ?side1 ?side2 A10.out).mono ?_
                    (case side1 => repeat (first | exact (Kd.C_below HR112_6.out HB.out) | (with_reducible refine Kd.C_alloc ?_ _) | (with_reducible refine Kd.C_drewN ?_ _) | (with_reducible refine Kd.C_drew ?_)))
                    (case side2 => exact HC112_6.out)
                    rintro e w15 ⟨rfl, hb⟩
                    refine ⟨_, rfl, ?_⟩
                    have n0_ := Aside0.mk (below_step (by repeat (first | (with_reducible first | exact HB.out | apply below_alloc | apply pw_below_drewN | apply below_drew1) | exact HB.out)) hb)
                    clear HB
                    have HB := n0_
                    clear n0_
                    (try clear hb)
                    (try clear hb2)
                    (try clear hk)
                    (try clear hi)
                    refine hK.out _ _ ⟨((HB.out.cell (World.block_lt_of_cell? w _ hw110_0)).trans hw110_0), ((HB.out.cell (World.block_lt_of_cell? w _ hw110_1)).trans hw110_1), ((HB.out.cell (World.block_lt_of_cell? w _ hw110_2)).trans hw110_2), ((HB.out.cell (World.block_lt_of_cell? w _ hw110_3)).trans hw110_3), ((HB.out.cell (World.block_lt_of_cell? w _ hw110_4)).trans hw110_4), ((HB.out.cell (World.block_lt_of_cell? w _ hw110_5)).trans hw110_5), ((HB.out.cell (World.block_lt_of_cell? w _ hw110_6)).trans hw110_6), ((HB.out.cell (World.block_lt_of_cell? w _ hw111_0)).trans hw111_0), ((HB.out.cell (World.block_lt_of_cell? w _ hw111_1)).trans hw111_1), ((HB.out.cell (World.block_lt_of_cell? w _ hw111_2)).trans hw111_2), ((HB.out.cell (World.block_lt_of_cell? w _ hw111_3)).trans hw111_3), ((HB.out.cell (World.block_lt_of_cell? w _ hw111_4)).trans hw111_4), ((HB.out.cell (World.block_lt_of_cell? w _ hw111_5)).trans hw111_5), ((HB.out.cell (World.block_lt_of_cell? w _ hw111_6)).trans hw111_6), ((HB.out.cell (World.block_lt_of_cell? w _ hw112_0)).trans hw112_0), ((HB.out.cell (World.block_lt_of_cell? w _ hw112_1)).trans hw112_1), ((HB.out.cell (World.block_lt_of_cell? w _ hw112_2)).trans hw112_2), ((HB.out.cell (World.block_lt_of_cell? w _ hw112_3)).trans hw112_3), ((HB.out.cell (World.block_lt_of_cell? w _ hw112_4)).trans hw112_4), ((HB.out.cell (World.block_lt_of_cell? w _ hw112_5)).trans hw112_5), ((HB.out.cell (World.block_lt_of_cell? w _ hw112_6)).trans hw112_6)⟩ (fun hHeld => ?_)
                    clear hK K
                    refine norm_ (a' := ?_) ?_ ?_
                    rotate_left
                    · show Act.put _ (some 41) _ = _
                      simp only [Act.put, List.setIfInBounds_toArray, List.set_cons_zero, List.set_cons_succ, i64_w, i32_w]
                      rfl
                    refine pure_ (i := 23) (N := some 42) (v := ?_) (a' := ?_) #[true, true, true, true, true, true, true, true, true, true, true, true, true, true, true, true, true, true, true, true, true, true, true, true, false] rfl rfl (any_of HT_.out (by kernel_rfl)) (fun _ _ _ h => h) (Or.inl ⟨by rfl, ?_⟩) ?_ ?_
                    rotate_left
                    · intro w'
                      go_simp
                      with_reducible rfl
                    rotate_left
                    · simp only [Act.put, List.setIfInBounds_toArray, List.set_cons_zero, List.set_cons_succ, i64_w, i32_w]
                      rfl
                    refine pure_ (i := 24) (N := some 43) (v := ?_) (a' := ?_) #[true, true, true, true, true, true, true, true, true, true, true, true, true, true, true, true, true, true, true, true, true, true, true, true, true] rfl rfl (any_of HT_.out (by kernel_rfl)) (fun _ _ _ h => h) (Or.inl ⟨by rfl, ?_⟩) ?_ ?_
                    rotate_left
                    · intro w'
                      go_simp
                      with_reducible rfl
                    rotate_left
                    · simp only [Act.put, List.setIfInBounds_toArray, List.set_cons_zero, List.set_cons_succ, i64_w, i32_w]
                      rfl
                    refine done_ (done_of HT_.out (by kernel_rfl)) ?_
                    try go_wp2
                    go_ret
                    exact ⟨by first | rfl | (simp [errW_none, errW_some] <;> rfl) | (simp [*, errW_none, errW_some] <;> rfl), by repeat (first | (with_reducible first | exact HB.out | apply below_alloc | apply pw_below_drewN | apply below_drew1) | exact HB.out)⟩
              · rw [if_neg c7] at H
                exact absurd H (by simp)
            · rw [if_neg c6] at H
              have c6b0 : decide (x5_2 < (l0.length : Int)) = false := decide_eq_false c6
              clear c6
              obtain rfl := Option.some.inj H
              go_wp2
              go_ret
              exact ⟨by first | rfl | (simp [errW_none, errW_some] <;> rfl) | (simp [*, errW_none, errW_some] <;> rfl), by repeat (first | (with_reducible first | exact HB.out | apply below_alloc | apply pw_below_drewN | apply below_drew1) | exact HB.out)⟩

end Go.Proofs.YtchdkiakdnanhaaGreatDoor.PA

namespace Go.Proofs.YtchdkiakdnanhaaGreatDoor.Pl
open Go.RowKit Go.Proofs.YtchdkiakdnanhaaGreatDoor.PA Go.Proofs.YtchdkiakdnanhaaGreatDoorW.PrintWords
set_option linter.unusedVariables false

mutual
/-- What any reading says of a part; of parts. -/
def dt1 : Nd → Prop
  | ⟨k, s, t, n, mm, fl, l⟩ => (i64 n ∧ i64 mm ∧ s.size ≤ 140737488351232 ∧ t.size ≤ 140737488351232) ∧ dtl l
def dtl : List Nd → Prop
  | [] => True
  | x :: r => dt1 x ∧ dtl r
end
theorem dt1_eta {x : Nd} (h : dt1 x) : (i64 x.f3 ∧ i64 x.f4 ∧ x.f1.size ≤ 140737488351232 ∧ x.f2.size ≤ 140737488351232) ∧ dtl x.f6 := by cases x; rw [dt1] at h; exact h
theorem dtl_mem : ∀ {l : List Nd} {x : Nd}, dtl l → x ∈ l → dt1 x
  | [], x, _, h => by simp at h
  | y :: r, x, ho, h => by
    rw [dtl] at ho
    rcases List.mem_cons.1 h with rfl | h
    · exact ho.1
    · exact dtl_mem ho.2 h
theorem dtl_of : ∀ {l : List Nd}, (∀ x ∈ l, dt1 x) → dtl l
  | [], _ => by rw [dtl]; trivial
  | y :: r, h => by rw [dtl]; exact ⟨h y List.mem_cons_self, dtl_of fun x hx => h x (List.mem_cons_of_mem _ hx)⟩
def fw : Nat → List Nd → Bool
  | 0, _ => false
  | d + 1, l => decide (l.length ≤ 8) && l.all fun x => decide (x.f1.size + x.f2.size ≤ 100) && fw d x.f6
def gw : Nat → Nat
  | 0 => 0
  | d + 1 => 8 * (101 + gw d)
theorem wt_le {c : Nat} : ∀ {l : List Nd}, (∀ x ∈ l, wt1 x ≤ c) → wt l ≤ l.length * c
  | [], _ => by rw [wt]; omega
  | y :: r, h => by
    rw [wt, List.length_cons, Nat.add_mul]
    have h1 := h y List.mem_cons_self
    have h2 := wt_le fun x hx => h x (List.mem_cons_of_mem _ hx)
    omega
theorem fw_ok : ∀ d (l : List Nd), dtl l → fw d l = true → okl l ∧ wt l ≤ gw d := by
  intro d
  induction d with
  | zero => intro l _ h; cases h
  | succ d ih =>
    intro l hd h
    rw [fw, Bool.and_eq_true, decide_eq_true_eq, List.all_eq_true] at h
    obtain ⟨hl, ha⟩ := h
    have each : ∀ x ∈ l, ok1 x ∧ wt1 x ≤ 101 + gw d := by
      intro x hx
      have h1 := ha x hx
      rw [Bool.and_eq_true, decide_eq_true_eq] at h1
      have h2 := dt1_eta (dtl_mem hd hx)
      have h3 := ih x.f6 h2.2 h1.2
      have h4 := wt1_eta x
      refine ⟨?_, by omega⟩
      cases x
      rw [ok1]
      exact ⟨⟨h2.1.1, h2.1.2.1, by have := h1.1; simp at this ⊢; omega, by have := h1.1; simp at this ⊢; omega⟩, h3.1⟩
    refine ⟨okl_of fun x hx => (each x hx).1, ?_⟩
    have h5 := wt_le fun x hx => (each x hx).2
    rw [gw]
    have h6 := Nat.mul_le_mul_right (101 + gw d) hl
    omega
theorem rd_at {l : List Nd} {i : Nat} (hi : i < l.length) : rd_T29 l (i : Int) = l[i] := by
  unfold rd_T29
  rw [Int.toNat_natCast, List.getD_eq_getElem?_getD, List.getElem?_eq_getElem hi]
  rfl
theorem few_f : ∀ (d : Nat), d ≤ 7 → ∀ (l : List Nd) (c : Nat), dtl l → incipitlaw20_few.f (12 * d + 2 + c) l ((7 - d : Nat) : Int) = some (fw d l) := by
  intro d
  induction d with
  | zero =>
    intro _ l c hd
    rw [show 12 * 0 + 2 + c = (c + 1) + 1 by omega, incipitlaw20_few.f, if_pos (by decide), incipitlaw20_few.j0, if_pos rfl, fw]
  | succ d ih =>
    intro hd7 l c hd
    rw [show 12 * (d + 1) + 2 + c = (12 * d + 12 + c) + 1 + 1 by omega, incipitlaw20_few.f, if_neg (by omega), incipitlaw20_few.j0, fw]
    by_cases hl : l.length ≤ 8
    · rw [if_neg (by simp; omega), decide_eq_true hl, Bool.true_and]
      have hg : ∀ n i : Nat, i + n = l.length → ∀ e, incipitlaw20_few.l0 (12 * d + 3 + c + n + e) l ((7 - (d + 1) : Nat) : Int) (i : Int) = some ((l.drop i).all fun x => decide (x.f1.size + x.f2.size ≤ 100) && fw d x.f6) := by
        intro n
        induction n with
        | zero =>
          intro i hi e
          rw [show 12 * d + 3 + c + 0 + e = (12 * d + 2 + c + e) + 1 by omega, incipitlaw20_few.l0, if_neg (by omega), List.drop_of_length_le (by omega)]
          rfl
        | succ n ihn =>
          intro i hi e
          have hil : i < l.length := by omega
          have hx := (dt1_eta (dtl_mem hd (List.getElem_mem hil)))
          have hm1 := hx.1.2.2.1
          have hm2 := hx.1.2.2.2

          rw [show 12 * d + 3 + c + (n + 1) + e = (12 * d + 3 + c + n + e) + 1 by omega, incipitlaw20_few.l0, if_pos (by omega), if_pos (by omega), rd_at hil, List.drop_eq_getElem_cons hil, List.all_cons]
          have hnx : incipitlaw20_few.l0 (12 * d + 3 + c + n + e) l ((7 - (d + 1) : Nat) : Int) (wrap64 ((i : Int) + 1)) = some ((l.drop (i + 1)).all fun x => decide (x.f1.size + x.f2.size ≤ 100) && fw d x.f6) := by
            rw [w64 (by omega) (by omega), show (i : Int) + 1 = ((i + 1 : Nat) : Int) by omega]
            exact ihn (i + 1) (by omega) e
          rw [w64 (x := ((l[i].f1.size : Nat) : Int) + ((l[i].f2.size : Nat) : Int)) (by omega) (by omega)]
          by_cases hz : l[i].f1.size + l[i].f2.size ≤ 100
          · rw [if_neg (by omega), w64 (x := ((7 - (d + 1) : Nat) : Int) + 1) (by omega) (by omega), show ((7 - (d + 1) : Nat) : Int) + 1 = ((7 - d : Nat) : Int) by omega, show 12 * d + 3 + c + n + e = 12 * d + 2 + (1 + c + n + e) by omega, ih (by omega) l[i].f6 _ hx.2, Option.bind_some, decide_eq_true hz, Bool.true_and, show 12 * d + 2 + (1 + c + n + e) = 12 * d + 3 + c + n + e by omega]
            cases hf : fw d l[i].f6
            · rw [if_neg (by simp), Bool.false_and]
            · rw [if_pos rfl, Bool.true_and]
              exact hnx
          · rw [if_pos (by omega), decide_eq_false hz, Bool.false_and, Bool.false_and]
      have := hg l.length 0 (by omega) (9 - l.length)
      rw [show 12 * d + 3 + c + l.length + (9 - l.length) = 12 * d + 12 + c by omega, List.drop_zero] at this
      exact this
    · rw [if_pos (by simp; omega), decide_eq_false hl, Bool.false_and]
end Go.Proofs.YtchdkiakdnanhaaGreatDoor.Pl

namespace Go.Proofs.YtchdkiakdnanhaaGreatDoor.RowU8
open Go.ChangeShapes Go.WideShapes Go.ChangeAt Go.RowKit Go.Lib Go.Proofs.YtchdkiakdnanhaaGreatDoor.Pl
set_option linter.unusedVariables false
section
variable {H : Type} {enc : TypeId × Value → H} {W : World} {base : Nat} {spare : Nat → Bool} {held : Bool}
theorem weightsAll_mem {P : Program} {e : TypeId} : ∀ {ds : List (DataW H)} {j : Nat} {d : DataW H}, ds[j]? = some d → ∀ n ∈ d.weights P e, n ∈ DataW.weightsAll P e ds
  | d0 :: ds, 0, d, hd, n, hn => by
    simp only [List.getElem?_cons_zero, Option.some.injEq] at hd
    subst hd
    simp only [DataW.weightsAll, List.mem_append]
    exact Or.inl hn
  | d0 :: ds, j + 1, d, hd, n, hn => by
    simp only [List.getElem?_cons_succ] at hd
    simp only [DataW.weightsAll, List.mem_append]
    exact Or.inr (weightsAll_mem hd n hn)
  | [], _, _, hd, _, _ => by simp at hd
variable (enc W base spare held)
def SRow (fuel : Nat) : Prop := ∀ cs x, DataW.trod enc Tryz.prog W base spare held fuel 27 cs = some x → (∀ n ∈ x.1.weights Tryz.prog 27, n ≤ reachBytes) →
  ∃ A l c, cs = [.slice A (l : List PA.S29).length c] ∧ l.length ≤ c ∧ YtchdkiakdnanhaaGreatDoorW.PrintWords.Kd.C PA.k29 W A l.length l ∧ dtl l
def NRow (fuel : Nat) : Prop := ∀ cs x, DataW.trod enc Tryz.prog W base spare held fuel 29 cs = some x → (∀ n ∈ x.1.weights Tryz.prog 29, n ≤ reachBytes) →
  ∃ (q : PA.S29) (A6 : Option Addr) (c6 : Nat), cs = [.int .i64 q.f0, .string q.f1, .string q.f2, .int .i64 q.f3, .int .i64 q.f4, .bool q.f5, .slice A6 q.f6.length c6] ∧ q.f6.length ≤ c6 ∧ YtchdkiakdnanhaaGreatDoorW.PrintWords.Kd.C PA.k29 W A6 q.f6.length q.f6 ∧ dt1 q
variable {enc W base spare held}
theorem i64_wf {n : Int} (h : (Lit.int .i64 n).wf = true) : i64 n := by
  unfold i64
  simp [Lit.wf, IntKind.min, IntKind.max] at h
  first | omega | (simp [IntKind.signed, IntKind.bits] at h; omega)
theorem cs_int : Tryz.prog.cellsOf 3 = 1 := by kernel_rfl
theorem cs_str : Tryz.prog.cellsOf 9 = 1 := by kernel_rfl
theorem cs_bool : Tryz.prog.cellsOf 4 = 1 := by kernel_rfl
theorem cs_sl : Tryz.prog.cellsOf 27 = 1 := by kernel_rfl
theorem cs_nd : Tryz.prog.cellsOf 29 = 7 := by kernel_rfl
set_option maxRecDepth 100000 in
theorem node_val {fuel : Nat} (ih : ∀ m, m < fuel → SRow enc W base spare held m) : NRow enc W base spare held fuel := by
  intro cs x h hw
  obtain ⟨xs, n, rfl, rfl, hcl, hxl, hf⟩ := DataW.trod_struct Tryz.underlying29 h
  rw [cs_nd] at hcl
  match xs, hxl, cs, hcl with
  | [y0, y1, y2, y3, y4, y5, y6], _, [v0, v1, v2, v3, v4, v5, v6], _ =>
    have g0 := hf 0 _ rfl
    have g1 := hf 1 _ rfl
    have g2 := hf 2 _ rfl
    have g3 := hf 3 _ rfl
    have g4 := hf 4 _ rfl
    have g5 := hf 5 _ rfl
    have g6 := hf 6 _ rfl
    simp [cs_int, cs_str, cs_bool, cs_sl] at g0 g1 g2 g3 g4 g5 g6
    obtain ⟨s0, e0, _, _⟩ := DataW.trod_int Tryz.underlying3 g0
    obtain ⟨s1, e1, rfl, _⟩ := DataW.trod_string Tryz.underlying9 g1
    obtain ⟨s2, e2, rfl, _⟩ := DataW.trod_string Tryz.underlying9 g2
    obtain ⟨s3, e3, _, w3⟩ := DataW.trod_int Tryz.underlying3 g3
    obtain ⟨s4, e4, _, w4⟩ := DataW.trod_int Tryz.underlying3 g4
    obtain ⟨s5, e5, _⟩ := DataW.trod_bool Tryz.underlying4 g5
    have hwe : ∀ (j : Nat) (t : TypeId) (d : DataW H), ([3, 9, 9, 3, 3, 4, 27] : List TypeId)[j]? = some t → ([y0.1, .lit (.string s1.data.toList), .lit (.string s2.data.toList), y3.1, y4.1, y5.1, y6.1] : List (DataW H))[j]? = some d → ∀ n ∈ d.weights Tryz.prog t, n ≤ reachBytes := by
      intro j t d ht hd n hn
      refine hw n ?_
      simp only [DataW.weights, Tryz.underlying29]
      exact DataW.weights_mem_each (ts := [3, 9, 9, 3, 3, 4, 27]) ht hd n hn
    obtain ⟨A6, l6, c6, e6, hc6, hk6, hd6⟩ := ih n (by omega) _ _ g6 (hwe 6 27 _ rfl rfl)
    have z1 := hwe 1 9 _ rfl rfl s1.data.toList.length (by simp [DataW.weights])
    have z2 := hwe 2 9 _ rfl rfl s2.data.toList.length (by simp [DataW.weights])
    simp at e0 e1 e2 e3 e4 e5 e6
    subst e0 e1 e2 e3 e4 e5 e6
    refine ⟨⟨s0, s1, s2, s3, s4, s5, l6⟩, A6, c6, rfl, hc6, hk6, ?_⟩
    rw [dt1]
    exact ⟨⟨i64_wf w3, i64_wf w4, by rw [Array.length_toList] at z1; exact z1, by rw [Array.length_toList] at z2; exact z2⟩, hd6⟩
set_option maxRecDepth 100000 in
theorem nodes_row : ∀ fuel, SRow enc W base spare held fuel := by
  intro fuel
  induction fuel using Nat.strongRecOn with
  | _ fuel ih =>
  intro cs x h hw
  rcases DataW.trod_slice Tryz.underlying27 h with ⟨rfl, rfl⟩ | ⟨ad, len, cap, elems, rest, n, rfl, rfl, rfl, hb, hl, hm, hlen, hel, _, _⟩
  · exact ⟨none, [], 0, rfl, Nat.le_refl _, ⟨rfl, by simp, fun h => absurd h (by simp)⟩, by rw [dtl]; trivial⟩
  · have each : ∀ i, i < len → ∃ (q : PA.S29) (cs : List Value), PA.k29.K W q cs ∧ dt1 q ∧ ∀ j u, cs[j]? = some u → W.cell? (ad.add (i * 7 + j)) = some u := by
      intro i hi
      have h1 := hel i hi
      have hi2 : i < elems.length := by omega
      rw [List.getElem?_eq_getElem hi2, cs_nd] at h1
      obtain ⟨cs', hc, h2⟩ := Option.bind_eq_some_iff.1 h1
      have hwe : ∀ n ∈ elems[i].1.weights Tryz.prog 29, n ≤ reachBytes := by
        intro n hn
        refine hw n ?_
        simp only [DataW.weights, Tryz.underlying27]
        refine List.mem_cons_of_mem _ (List.mem_append.2 (.inl (weightsAll_mem (j := i) (d := elems[i].1) ?_ n hn)))
        rw [List.getElem?_map, List.getElem?_eq_getElem hi2]
        rfl
      obtain ⟨q, A6, c6, rfl, hc6, hk6, hd⟩ := node_val (fun m hm => ih m (by omega)) _ _ h2 hwe
      obtain ⟨_, hlen', hcell⟩ := World.cells?_some hc
      refine ⟨q, _, PA.k29_mk W q hc6 hk6, hd, fun j u hj => ?_⟩
      have hj7 : j < 7 := by
        have := (List.getElem?_eq_some_iff.1 hj).1
        simpa using this
      have := hcell j hj7
      rw [Go.Deep.add_add] at this
      rw [this]
      exact hj
    haveI : Inhabited PA.S29 := ⟨PA.z29⟩
    obtain ⟨q, hq⟩ := Go.Deep.choose_lt each
    refine ⟨some ad, (List.range len).map q, cap, by simp, by simpa using hl, ⟨rfl, by simp; unfold maxLen at hm; omega, fun _ => ⟨ad, rfl, fun j p hj => ?_⟩⟩, ?_⟩
    · obtain ⟨hjl, hp⟩ := List.getElem?_eq_some_iff.1 hj
      have hjl2 : j < len := by simpa using hjl
      have hp2 : q j = p := by simpa using hp
      subst hp2
      obtain ⟨cs', hK, _, hc⟩ := hq j hjl2
      refine ⟨cs', ?_, hK, fun i u hi => hc i u hi⟩
      obtain ⟨A6, c6, rfl, _, _⟩ := PA.k29_open hK
      rfl
    · refine dtl_of fun x hx => ?_
      obtain ⟨j, hj, rfl⟩ := List.mem_map.1 hx
      obtain ⟨_, _, hd, _⟩ := hq j (List.mem_range.1 hj)
      exact hd
end
end Go.Proofs.YtchdkiakdnanhaaGreatDoor.RowU8

namespace Go.Proofs.YtchdkiakdnanhaaGreatDoor.PA
open Go.RowKit Go.Sort Go.Proofs.YtchdkiakdnanhaaGreatDoor.Pl Go.Proofs.YtchdkiakdnanhaaGreatDoorW.PrintWords Go.Proofs.YtchdkiakdnanhaaGreatDoorW.PrintLast Go.Proofs.YtchdkiakdnanhaaGreatDoorW.PrintMore
set_option linter.unusedVariables false

/-- Nodes in one node of a kind. -/
abbrev xq (k : Int) (l : List Nd) : Nd := ⟨k, ⟨#[]⟩, ⟨#[]⟩, 0, 0, false, l⟩
theorem hrf_nil : hrf [] = [] := by decide +kernel
theorem htm_nil : htm [] = [] := by decide +kernel
theorem e_nil : (⟨#[]⟩ : ByteArray).data.toList = [] := rfl
theorem xq2 (m : Int) (l : List Nd) : B (blk m [xq 2 l]) = (⟨#[60, 98, 108, 111, 99, 107, 113, 117, 111, 116, 101, 62, 10]⟩ : ByteArray) ++ B (blk m l) ++ (⟨#[60, 47, 98, 108, 111, 99, 107, 113, 117, 111, 116, 101, 62, 10]⟩ : ByteArray) := by
  rw [show (⟨#[60, 98, 108, 111, 99, 107, 113, 117, 111, 116, 101, 62, 10]⟩ : ByteArray) = B [60, 98, 108, 111, 99, 107, 113, 117, 111, 116, 101, 62, 10] from rfl, show (⟨#[60, 47, 98, 108, 111, 99, 107, 113, 117, 111, 116, 101, 62, 10]⟩ : ByteArray) = B [60, 47, 98, 108, 111, 99, 107, 113, 117, 111, 116, 101, 62, 10] from rfl, B_append, B_append]
  congr 1
  simp [blk, blk1]
theorem xq7 (m : Int) (l : List Nd) : B (blk m [xq 7 l]) = (⟨#[60, 112, 62]⟩ : ByteArray) ++ B (inl m l) ++ (⟨#[60, 47, 112, 62, 10]⟩ : ByteArray) := by
  rw [show (⟨#[60, 112, 62]⟩ : ByteArray) = B [60, 112, 62] from rfl, show (⟨#[60, 47, 112, 62, 10]⟩ : ByteArray) = B [60, 47, 112, 62, 10] from rfl, B_append, B_append]
  congr 1
  simp [blk, blk1, tagd]
theorem xq18 (m : Int) (l : List Nd) : B (inl m [xq 18 l]) = (⟨#[60, 101, 109, 62]⟩ : ByteArray) ++ B (inl m l) ++ (⟨#[60, 47, 101, 109, 62]⟩ : ByteArray) := by
  rw [show (⟨#[60, 101, 109, 62]⟩ : ByteArray) = B [60, 101, 109, 62] from rfl, show (⟨#[60, 47, 101, 109, 62]⟩ : ByteArray) = B [60, 47, 101, 109, 62] from rfl, B_append, B_append]
  congr 1
  simp [inl, inl1, tagd]
theorem xq20 (m : Int) (l : List Nd) : B (inl m [xq 20 l]) = (⟨#[60, 97, 32, 104, 114, 101, 102, 61, 34, 34, 62]⟩ : ByteArray) ++ B (inl m l) ++ (⟨#[60, 47, 97, 62]⟩ : ByteArray) := by
  rw [show (⟨#[60, 97, 32, 104, 114, 101, 102, 61, 34, 34, 62]⟩ : ByteArray) = B [60, 97, 32, 104, 114, 101, 102, 61, 34, 34, 62] from rfl, show (⟨#[60, 47, 97, 62]⟩ : ByteArray) = B [60, 47, 97, 62] from rfl, B_append, B_append]
  congr 1
  simp [inl, inl1, tagd, atr, hrf_nil, htm_nil, e_nil]
theorem xq1 (m : Int) (l : List Nd) : B (blk m [xq 1 l]) = B (blk m l) := by
  congr 1
  simp [blk, blk1]
theorem xq_o (k : Int) (l : List Nd) : i64 (xq k l).f3 ∧ i64 (xq k l).f4 ∧ (xq k l).f1.size ≤ 1048576 ∧ (xq k l).f2.size ≤ 1048576 := ⟨i64_0, i64_0, by show (⟨#[]⟩ : ByteArray).size ≤ 1048576; decide, by show (⟨#[]⟩ : ByteArray).size ≤ 1048576; decide⟩
theorem xq_w (k : Int) {l : List Nd} (h : wt l < 268435456) : wt1 (xq k l) ≤ 268435456 := by
  rw [wt1]
  have : (⟨#[]⟩ : ByteArray).size = 0 := rfl
  omega
set_option maxHeartbeats 1000000 in
set_option maxRecDepth 100000 in
theorem wraps_no {w : World} {A : Option Addr} {c : Nat} {l : List Nd} (m : Int) (hLd : LaidW w) (k : Nat) (hr : Kd.C k29 w A l.length l) (hc : l.length ≤ c) (hf : incipitlaw20_few.f k l 0 = some false) :
    Calls Tryz.prog 6 #[.slice A l.length c, .int .i64 m] w fun e w' => e = .returned (.bool true) ∧ Below w.heap.size w w' := by
  have HA := Aside0.mk (awake_calls w hLd)
  have HF := Aside0.mk (fun (W : World) (hW : Below w.heap.size w W) => incipitlaw20_few.calls k A c l 0 false W (Kd.C_below hr hW) hc hf)
  have HST := Aside0.mk (fun (W W' : World) (h : Below w.heap.size w W) (k : Below W.heap.size W W') => below_step h k)
  clear hLd hr hf
  go_enter Tryz.func6, Tryz.ntmps6
  go_wp2_with fail
  refine HA.out.mono ?_
  rintro e w1 ⟨rfl, hb1⟩
  have HB1 := Aside0.mk hb1
  clear hb1
  go_wp2_with fail
  refine (HF.out _ HB1.out).mono ?_
  rintro e w2 ⟨rfl, hb2⟩
  have HB2 := Aside0.mk (HST.out _ _ HB1.out hb2)
  clear hb2
  go_wp2
  go_ret
  exact ⟨rfl, HB2.out⟩
/-- A node in a new row: what the two renderers answer there. -/
theorem put_b {w : World} {A : Option Addr} {c : Nat} {l : List Nd} (m k : Int) (hLd : LaidW w) (hq : Rq w A c l) (hw : wt l < 268435456) (W : World) (hW : Below w.heap.size w W) :
    Calls Tryz.prog 13 #[.slice (some ⟨W.heap.size, 0, none⟩) 1 1, .int .i64 m] (W.alloc (.cells #[.int .i64 k, .string ⟨#[]⟩, .string ⟨#[]⟩, .int .i64 0, .int .i64 0, .bool false, .slice A l.length c] 29))
      fun e w' => e = .returned (.string (B (blk m [xq k l]))) ∧ Below w.heap.size w w' := by
  have h1 := Rq.made (x := xq k l) (hq.go hW) (xq_o k l) (xq_w k hw)
  have hb : Below w.heap.size w (W.alloc (.cells (ncs (xq k l) A c) 29)) := hW.alloc (hW.size) _
  exact (Blocks_calls m (hLd.go hb) h1).mono fun e w' ⟨he, hw'⟩ => ⟨he, below_step hb hw'⟩
theorem put_i {w : World} {A : Option Addr} {c : Nat} {l : List Nd} (m k : Int) (hLd : LaidW w) (hq : Rq w A c l) (hw : wt l < 268435456) (W : World) (hW : Below w.heap.size w W) :
    Calls Tryz.prog 14 #[.slice (some ⟨W.heap.size, 0, none⟩) 1 1, .int .i64 m] (W.alloc (.cells #[.int .i64 k, .string ⟨#[]⟩, .string ⟨#[]⟩, .int .i64 0, .int .i64 0, .bool false, .slice A l.length c] 29))
      fun e w' => e = .returned (.string (B (inl m [xq k l]))) ∧ Below w.heap.size w w' := by
  have h1 := Rq.made (x := xq k l) (hq.go hW) (xq_o k l) (xq_w k hw)
  have hb : Below w.heap.size w (W.alloc (.cells (ncs (xq k l) A c) 29)) := hW.alloc (hW.size) _
  exact (Inlines_calls m (hLd.go hb) h1).mono fun e w' ⟨he, hw'⟩ => ⟨he, below_step hb hw'⟩
set_option maxHeartbeats 2000000 in
set_option maxRecDepth 100000 in
theorem wraps_yes {w : World} {A : Option Addr} {c : Nat} {l : List Nd} (m : Int) (hLd : LaidW w) (k : Nat) (hq : Rq w A c l) (hw : wt l < 268435456) (hf : incipitlaw20_few.f k l 0 = some true) :
    Calls Tryz.prog 6 #[.slice A l.length c, .int .i64 m] w fun e w' => e = .returned (.bool true) ∧ Below w.heap.size w w' := by
  have HA := Aside0.mk (awake_calls w hLd)
  have HF := Aside0.mk (fun (W : World) (hW : Below w.heap.size w W) => incipitlaw20_few.calls k A c l 0 true W (Kd.C_below hq.row hW) hq.cap hf)
  have HBL := Aside0.mk (fun (W : World) (hW : Below w.heap.size w W) => (Blocks_calls m (hLd.go hW) (hq.go hW)).mono fun e w' ⟨he, hw'⟩ => (⟨he, below_step hW hw'⟩ : e = _ ∧ Below w.heap.size w w'))
  have HIN := Aside0.mk (fun (W : World) (hW : Below w.heap.size w W) => (Inlines_calls m (hLd.go hW) (hq.go hW)).mono fun e w' ⟨he, hw'⟩ => (⟨he, below_step hW hw'⟩ : e = _ ∧ Below w.heap.size w w'))
  have HQ := Aside0.mk (put_b m 2 hLd hq hw)
  have HPA := Aside0.mk (put_b m 7 hLd hq hw)
  have HE := Aside0.mk (put_i m 18 hLd hq hw)
  have HLK := Aside0.mk (put_i m 20 hLd hq hw)
  have HD := Aside0.mk (put_b m 1 hLd hq hw)
  have HST := Aside0.mk (fun (W W' : World) (h : Below w.heap.size w W) (k : Below W.heap.size W W') => below_step h k)
  rw [xq2] at HQ
  rw [xq7] at HPA
  rw [xq18] at HE
  rw [xq20] at HLK
  rw [xq1] at HD
  have hlb := blk_len m l hq.ok
  have hli := inl_len m l hq.ok
  have hwl := hq.lim
  have hsb : (B (blk m l)).size ≤ 100000000000 := by rw [B_size]; omega
  have hsi : (B (inl m l)).size ≤ 100000000000 := by rw [B_size]; omega
  obtain ⟨sb, hb⟩ : ∃ s, B (blk m l) = s := ⟨_, rfl⟩
  obtain ⟨si, hi⟩ : ∃ s, B (inl m l) = s := ⟨_, rfl⟩
  simp only [hb, hi] at HBL HIN HQ HPA HE HLK HD hsb hsi
  have n0 : w.heap.size ≤ w.heap.size := Nat.le_refl _
  clear hLd hq hf hb hi hlb hli hwl hw
  have y1 : ¬ 9223372036854775807 < 13 + sb.size := by omega
  have y2 : ¬ 9223372036854775807 < 13 + sb.size + 14 := by omega
  have y3 : ¬ 9223372036854775807 < 3 + si.size := by omega
  have y4 : ¬ 9223372036854775807 < 3 + si.size + 5 := by omega
  have y5 : ¬ 9223372036854775807 < 4 + si.size := by omega
  have y6 : ¬ 9223372036854775807 < 4 + si.size + 5 := by omega
  have y7 : ¬ 9223372036854775807 < 11 + si.size := by omega
  have y8 : ¬ 9223372036854775807 < 11 + si.size + 4 := by omega
  go_enter Tryz.func6, Tryz.ntmps6
  go_wp2_with fail
  refine HA.out.mono ?_
  rintro e w1 ⟨rfl, hb1⟩
  have HB1 := Aside0.mk hb1
  clear hb1
  go_wp2_with fail
  refine (HF.out _ HB1.out).mono ?_
  rintro e w2 ⟨rfl, hb2⟩
  have HB2 := Aside0.mk (HST.out _ _ HB1.out hb2)
  clear hb2
  go_wp2_with fail
  refine (HBL.out _ HB2.out).mono ?_
  rintro e w3 ⟨rfl, hb3⟩
  have HB3 := Aside0.mk hb3
  clear hb3
  go_wp2_with fail
  refine (HIN.out _ HB3.out).mono ?_
  rintro e w4 ⟨rfl, hb4⟩
  have HB4 := Aside0.mk hb4
  clear hb4
  go_wp2_with fail
  refine (HQ.out _ HB4.out).mono ?_
  rintro e w5 ⟨rfl, hb5⟩
  have HB5 := Aside0.mk hb5
  clear hb5
  go_wp2_with fail
  refine (HPA.out _ HB5.out).mono ?_
  rintro e w6 ⟨rfl, hb6⟩
  have HB6 := Aside0.mk hb6
  clear hb6
  go_wp2_with fail
  refine (HE.out _ HB6.out).mono ?_
  rintro e w7 ⟨rfl, hb7⟩
  have HB7 := Aside0.mk hb7
  clear hb7
  go_wp2_with fail
  refine (HLK.out _ HB7.out).mono ?_
  rintro e w8 ⟨rfl, hb8⟩
  have HB8 := Aside0.mk hb8
  clear hb8
  go_wp2_with fail
  refine (HD.out _ HB8.out).mono ?_
  rintro e w9 ⟨rfl, hb9⟩
  have HB9 := Aside0.mk hb9
  clear hb9
  go_wp2
  go_ret
  exact ⟨rfl, HB9.out⟩
open Classical in
/-- RenderWraps in short: nodes that few allows must be within bounds. -/
noncomputable def incipitlaw20_RenderWraps.f (k : Nat) (l0 : List S29) (a1 : Int) : Option Bool := (incipitlaw20_few.f k l0 0).bind fun t => if t = true then (if okl l0 ∧ wt l0 < 268435456 then some true else none) else some true
theorem incipitlaw20_RenderWraps.calls (k : Nat) (A0 : Option Addr) (c0 : Nat) (l0 : List S29) (a1 : Int) (r : Bool) (w : World) (hLd : LaidW w) (hr0 : Kd.C k29 w A0 l0.length l0) (hc0 : l0.length ≤ c0) (h : incipitlaw20_RenderWraps.f k l0 a1 = some r) :
    Calls Tryz.prog 6 #[.slice A0 l0.length c0, .int .i64 a1] w fun e w' => e = .returned (.bool r) ∧ Below w.heap.size w w' := by
  unfold incipitlaw20_RenderWraps.f at h
  obtain ⟨t, hf, h⟩ := Option.bind_eq_some_iff.1 h
  cases t with
  | false =>
    rw [if_neg (by simp)] at h
    obtain rfl := Option.some.inj h
    exact wraps_no a1 hLd k hr0 hc0 hf
  | true =>
    rw [if_pos rfl] at h
    split at h
    · rename_i hc
      obtain rfl := Option.some.inj h
      exact wraps_yes a1 hLd k ⟨hr0, hc0, hc.1, by omega⟩ hc.2 hf
    · cases h
end Go.Proofs.YtchdkiakdnanhaaGreatDoor.PA

namespace Go.Proofs.YtchdkiakdnanhaaGreatDoor.Pure
open Go.RowKit Go.Proofs.YtchdkiakdnanhaaGreatDoorW.PrintWords Go.Proofs.YtchdkiakdnanhaaGreatDoorW.PrintMore Go.Proofs.YtchdkiakdnanhaaGreatDoor.Pl

theorem RenderWraps : ∀ (l0 : List PA.S29) (a1 : Int), dtl l0 → (Lit.int .i64 a1).wf = true → ∃ k, PA.incipitlaw20_RenderWraps.f k l0 a1 = some true := by
  intro l0 a1 hd _
  refine ⟨12 * 7 + 2 + 0, ?_⟩
  have h := few_f 7 (Nat.le_refl _) l0 0 hd
  unfold PA.incipitlaw20_RenderWraps.f
  rw [show ((7 - 7 : Nat) : Int) = 0 from rfl] at h
  rw [h, Option.bind_some]
  cases hf : fw 7 l0
  · rw [if_neg (by simp)]
  · have h1 := fw_ok 7 l0 hd hf
    have h2 : gw 7 < 268435456 := by decide
    rw [if_pos rfl, if_pos ⟨h1.1, by omega⟩]
end Go.Proofs.YtchdkiakdnanhaaGreatDoor.Pure

namespace Go.Proofs.YtchdkiakdnanhaaGreatDoor.renderWraps
open Go.ChangeShapes Go.WideShapes Go.ChangeAt Go.RowKit Go.Proofs.YtchdkiakdnanhaaGreatDoorW.PrintWords Go.Proofs.YtchdkiakdnanhaaGreatDoor.RowU8
open Go.ChangeMaps (open_string shut_string)
set_option linter.unusedVariables false
set_option maxRecDepth 100000 in
theorem contract (H : Type) (enc : TypeId × Value → H) (W : World) (base : Nat) (args : Array Value) (ds gs : List (DataW H)) (before : List MemPlace)
    (hval0 : ∀ (j : Nat) t v, Tryz.f6.params[j]? = some t → args[j]? = some v → Value.okWide Tryz.prog W .any base t v)
    (hW : DataW.Whole enc Tryz.prog Tryz.f6.params.toList Rows.renderWrapsSpec.vars false W args.toList ds gs before) (hsz0 : (DataW.weightsEach Tryz.prog (Tryz.f6.params.toList ++ (OpenSpec.ofChange Rows.renderWrapsSpec).bare.plain.varTypes Tryz.prog) (ds ++ gs)).all (· ≤ reachBytes) = true) (hSh : W.ShapedOpen Tryz.prog) (hL : laidMetH Tryz.prog Rows.renderWrapsRow.laid W) :
    Calls Tryz.prog 6 args W fun e W' => ∃ v, e = .returned v ∧ Rows.renderWrapsSpec.post enc Tryz.prog Tryz.f6 false true false false W args v W' := by
  have hsz : (DataW.weightsEach Tryz.prog (Tryz.f6.params.toList ++ Rows.renderWrapsSpec.plain.varTypes Tryz.prog) (ds ++ gs)).all (· ≤ reachBytes) = true := hsz0
  have hval : ∀ (j : Nat) t v, Tryz.f6.params[j]? = some t → args[j]? = some v → Value.okWide Tryz.prog W .any base t v := hval0
  have hW' := hW
  obtain ⟨p, q, hA0, hV, rfl, hfz, hnd⟩ := hW
  have hA : DataW.TrodAll enc Tryz.prog W 0 (fun _ => true) true Tryz.f6.params.toList args.toList ds p := hA0
  rw [Tryz.params6] at hA hval hsz
  obtain ⟨v0, vs0, d0, ds0, p0, q0, hargs, rfl, rfl, h0, r0⟩ := trodAll_cons hA
  obtain ⟨v1, vs1, d1, ds1, p1, q1, rfl, rfl, rfl, h1, r1⟩ := trodAll_cons r0
  obtain ⟨rfl, rfl, rfl⟩ := trodAll_nil r1
  obtain rfl : args = #[v0, v1] := by cases args; simp_all
  obtain ⟨rfl, rfl⟩ := trodVars_none hV
  obtain ⟨a0, len0, cap0, rfl⟩ := okWide_slice Tryz.underlying27 (hval 0 27 v0 rfl rfl)
  have k0 := h0
  have lt0 : ∀ x ∈ p0, x.block < W.heap.size := by obtain ⟨m, hm⟩ := k0; exact DataW.trod_lt m _ _ _ hm
  obtain ⟨l0, rfl, hc0, hr0, hm0⟩ : ∃ l : List PA.S29, len0 = l.length ∧ l.length ≤ cap0 ∧ Kd.C PA.k29 W a0 l.length l ∧ Pl.dtl l := by
    obtain ⟨fuel, hf⟩ := h0
    obtain ⟨A, l, c, e, hc, hk, hd⟩ := nodes_row _ _ _ hf (fun n hn => by have := List.all_eq_true.1 hsz _ (DataW.weights_mem_each (j := 0) (t := 27) (d := d0) rfl rfl n hn); simpa using this)
    simp [Value.cells] at e
    obtain ⟨rfl, rfl, rfl⟩ := e
    exact ⟨l, rfl, hc, hk, hd⟩
  obtain ⟨a1, rfl, rfl, rfl, w1⟩ := open_int Tryz.underlying3 (hval 1 3 v1 rfl rfl) h1
  clear hA0 hval0 hsz0 hsz
  obtain ⟨k, hp⟩ := Pure.RenderWraps l0 a1 hm0 w1
  refine (PA.incipitlaw20_RenderWraps.calls k _ _ l0 a1 true W (laidOf hSh hL (by kernel_rfl) (by simp [Rows.renderWrapsRow]) (by simp [Rows.renderWrapsRow])) hr0 hc0 hp).mono ?_
  rintro e W' ⟨rfl, bel⟩
  exact ⟨_, rfl, _, _, _, [], _, [], hW', trodAll_mk1 (shut_bool Tryz.underlying4 _), (trodAll_cons_mk (Below.trod laidOut (by kernel_rfl) (of_decide_eq_true (by kernel_rfl)) k0 bel lt0) (trodAll_cons_mk (shut_int Tryz.underlying3 w1) trodAll_mk0)), rfl, bel.frame _, fun h => by cases h⟩
theorem laid_met (os : Os) : laidMet Tryz.prog Rows.renderWrapsRow.laid ((laidWorld os).forCall (fun _ _ => 0) ⟨#[], #[.slice none 0 0, .int .i64 0], []⟩).memory :=
  laidMet_of_run' 8 (by kernel_rfl) (by kernel_rfl)
theorem reads (os : Os) {H : Type} (enc : TypeId × Value → H) : ∃ places, DataW.whole enc Tryz.prog ((laidWorld os).forCall (fun _ _ => 0) ⟨#[], #[.slice none 0 0, .int .i64 0], []⟩).memory Tryz.f6.params.toList Rows.renderWrapsSpec.vars false (#[.slice none 0 0, .int .i64 0] : Array Value).toList 8 = some ([.nil, .lit (.int .i64 0)], [], places) :=
  ⟨[], by kernel_rfl⟩
set_option maxRecDepth 100000 in
theorem lifted (os : Os) (started : os.Started) (H : Type) (enc : TypeId × Value → H) (F : Stop.Interp) :
    ReturnsInHanded {} Tryz.checked os 6 .any ((OpenSpec.ofChange Rows.renderWrapsSpec).preRow enc Tryz.prog Tryz.f6 Rows.renderWrapsRow.domain false Rows.renderWrapsRow.laid) (((OpenSpec.ofChange Rows.renderWrapsSpec).at F).post enc Tryz.prog Tryz.f6 false true false false) := by
  obtain ⟨places, hx⟩ := reads os enc
  refine returnsInHanded_of_row (C := Tryz.checked) (s := OpenSpec.ofChange Rows.renderWrapsSpec) own started (by kernel_rfl) Tryz.func6
    (witness_row_atRef (enc := enc) (C := Tryz.checked) false (laidWorld os) #[.slice none 0 0, .int .i64 0] (laidWorld_os os) (by kernel_rfl) (by kernel_rfl) (by kernel_rfl)
      (OpenSpec.preRow_of_cond 8 hx (by kernel_rfl) (fun k hk => by cases hk) (by kernel_rfl) (laid_met os))) ?_
  intro W base args ds gs before hval hW _ _ hsz hL hSh _
  exact contract H enc W base args ds gs before hval hW hsz hSh hL
theorem said : Rows.RenderWrapsSaid :=
  OpenClaim.holds_of_cond 6 Tryz.f6 rfl rfl rfl rfl rfl rfl rfl ⟨rfl, rfl, rfl, rfl, rfl⟩ rfl rfl rfl rfl rfl (by kernel_rfl) Tryz.func6 (by kernel_rfl)
    (of_decide_eq_true (by kernel_rfl)) (by unfold Func.isWrapper; first | (rw [if_pos (by decide +kernel)]; kernel_rfl) | (rw [if_neg (by decide +kernel)]; exact ⟨rfl, rfl⟩))
    (fun os started H enc _ F => by rw [OpenClaim.pre_eq_preRow]; exact lifted os started H enc F)
theorem plain (f : FuncId) (fn : Func) (hf : Tryz.pinned.checked.prog.funcNamed "incipit/incipitlaw20.RenderWraps" = some f) (hfn : Tryz.pinned.checked.prog.funcs[f]? = some fn) :
    true = Tryz.pinned.checked.prog.looks [] ∧ ∀ (j : Nat) t, fn.params[j]? = some t → Tryz.pinned.checked.prog.wantsStandIn t = false := by
  obtain rfl : f = 6 := Option.some.inj ((show Tryz.prog.funcNamed "incipit/incipitlaw20.RenderWraps" = some 6 by kernel_rfl).symm.trans hf) |>.symm
  obtain rfl : fn = Tryz.f6 := (Option.some.inj (Tryz.func6.symm.trans hfn)).symm
  refine ⟨by kernel_rfl, fun j t ht => ?_⟩
  rw [Tryz.params6] at ht
  have hall : ∀ t ∈ (#[27, 3] : Array Nat), Tryz.prog.wantsStandIn t = false := by
    intro t ht
    simp at ht
    rcases ht with rfl | rfl
    · exact (show Tryz.prog.wantsStandIn 27 = false by kernel_rfl)
    · exact (show Tryz.prog.wantsStandIn 3 = false by kernel_rfl)
  exact hall t (Array.mem_of_getElem? ht)
theorem card : Rows.RenderWrapsCardSaid :=
  Claim7.holds_tied_plain_at .later [] _ _ _ _ said (fun _ h => by cases h) (by kernel_rfl) (fun _ h => by cases h) renderWraps_row_tie rfl ⟨rfl, rfl⟩ (by kernel_rfl) rfl plain (by kernel_rfl)
end Go.Proofs.YtchdkiakdnanhaaGreatDoor.renderWraps
namespace Go.Proofs.YtchdkiakdnanhaaGreatDoor
/-- The statement, under a short name, for the claim. -/
theorem renderWraps_holds : Rows.RenderWrapsCardSaid := renderWraps.card
end Go.Proofs.YtchdkiakdnanhaaGreatDoor
