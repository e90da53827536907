-- printed by the kit's printer, turned by a program of this session (wip/tools/mkprint.py)
import Derived.Test.YtddmddlaamcpiaaDoorPAx0
import Derived.Test.YtddmddlaamcpiaaDoorPAx4
import Derived.Test.YtddmddlaamcpiaaDoorGLib
import Derived.Test.YtddmddlaamcpiaaDoorGIdx
import Derived.Test.YtddmddlaamcpiaaDoorGTrims
import Derived.Test.YtddmddlaamcpiaaDoorGMax
namespace Go.Proofs.YtddmddlaamcpiaaDoor.PA
open Go.RowKit Go.Proofs.YtddmddlaamcpiaaDoorW.PrintWords Go.Proofs.YtddmddlaamcpiaaDoorW.PrintLast Go.Proofs.YtddmddlaamcpiaaDoorW.PrintMore
attribute [local go_sem] max2_int min2_int max_two min_two max_three min_three max_four min_four   -- for this text's walks alone
set_option linter.unusedVariables false
set_option linter.unusedSimpArgs false

/-! ### incipitlaw17_AutoApart: function 3 -/
mutual
def incipitlaw17_AutoApart.l0 : Nat → ByteArray → Bool → List (S26) → Int → Int → Option (Bool)
  | 0, _, _, _, _, _ => none
  | k + 1, x0, x3, x4, x5, x6 => if x6 < (x4.length : Int) then (if 0 ≤ x6 then (if ((rd_T26 x4 x6).f0) < x5 then (incipitlaw17_AutoApart.j1 k x0 x3 x4 x6 true ((rd_T26 x4 x6).f0) ((rd_T26 x4 x6).f1) ((rd_T26 x4 x6).f2)) else (if ((rd_T26 x4 x6).f1) ≤ (wrap64 (((rd_T26 x4 x6).f0) + 2)) then (incipitlaw17_AutoApart.j1 k x0 x3 x4 x6 true ((rd_T26 x4 x6).f0) ((rd_T26 x4 x6).f1) ((rd_T26 x4 x6).f2)) else (incipitlaw17_AutoApart.j1 k x0 x3 x4 x6 (decide (((rd_T26 x4 x6).f1) > (x0.size : Int))) ((rd_T26 x4 x6).f0) ((rd_T26 x4 x6).f1) ((rd_T26 x4 x6).f2)))) else (none)) else (some x3)
def incipitlaw17_AutoApart.j1 : Nat → ByteArray → Bool → List (S26) → Int → Bool → Int → Int → ByteArray → Option (Bool)
  | 0, _, _, _, _, _, _, _, _ => none
  | k + 1, x0, x3, x4, x6, x46, x160000, x160001, x160002 => if x46 = true then (some false) else (if 0 ≤ x160000 then (if x160000 ≤ x160001 then (if x160001 ≤ (x0.size : Int) then (if x160002.toList = (x0.extract (x160000 : Int).toNat (x160001 : Int).toNat).toList then (incipitlaw17_AutoApart.j2 k x0 x3 x4 x6 (x0.extract (x160000 : Int).toNat (x160001 : Int).toNat) false x160000 x160001 x160002) else (if 7 + (x0.extract (x160000 : Int).toNat (x160001 : Int).toNat).size ≤ 9223372036854775807 then (if x160002.toList = ((⟨#[104, 116, 116, 112, 58, 47, 47]⟩ : ByteArray) ++ (x0.extract (x160000 : Int).toNat (x160001 : Int).toNat)).toList then (incipitlaw17_AutoApart.j2 k x0 x3 x4 x6 (x0.extract (x160000 : Int).toNat (x160001 : Int).toNat) false x160000 x160001 x160002) else (incipitlaw17_AutoApart.j2 k x0 x3 x4 x6 (x0.extract (x160000 : Int).toNat (x160001 : Int).toNat) (x160002.toList != ((⟨#[109, 97, 105, 108, 116, 111, 58]⟩ : ByteArray) ++ (x0.extract (x160000 : Int).toNat (x160001 : Int).toNat)).toList) x160000 x160001 x160002)) else (none))) else (none)) else (none)) else (none))
def incipitlaw17_AutoApart.j2 : Nat → ByteArray → Bool → List (S26) → Int → ByteArray → Bool → Int → Int → ByteArray → Option (Bool)
  | 0, _, _, _, _, _, _, _, _, _ => none
  | k + 1, x0, x3, x4, x6, x8, x70, x160000, x160001, x160002 => if x70 = true then (some false) else (incipitlaw17_AutoApart.l1 k x0 x3 x4 x6 x8 0 x160000 x160001 x160002)
def incipitlaw17_AutoApart.l1 : Nat → ByteArray → Bool → List (S26) → Int → ByteArray → Int → Int → Int → ByteArray → Option (Bool)
  | 0, _, _, _, _, _, _, _, _, _ => none
  | k + 1, x0, x3, x4, x6, x8, x9, x160000, x160001, x160002 => if x9 < (x8.size : Int) then (if 0 ≤ x9 then (if (bt x8 x9) = 32 then (some false) else (if (bt x8 x9) = 9 then (some false) else (if (bt x8 x9) = 10 then (some false) else (if (bt x8 x9) = 60 then (some false) else (incipitlaw17_AutoApart.l1 k x0 x3 x4 x6 x8 (wrap64 (x9 + 1)) x160000 x160001 x160002))))) else (none)) else (if x160000 > 0 then (if 0 ≤ (wrap64 (x160000 - 1)) then (if (wrap64 (x160000 - 1)) < (x0.size : Int) then (if (bt x0 (wrap64 (x160000 - 1))) = 32 then (incipitlaw17_AutoApart.l0 k x0 x3 x4 x160001 (wrap64 (x6 + 1))) else (if (bt x0 (wrap64 (x160000 - 1))) = 9 then (incipitlaw17_AutoApart.l0 k x0 x3 x4 x160001 (wrap64 (x6 + 1))) else (if (bt x0 (wrap64 (x160000 - 1))) = 10 then (incipitlaw17_AutoApart.l0 k x0 x3 x4 x160001 (wrap64 (x6 + 1))) else (if (bt x0 (wrap64 (x160000 - 1))) = 42 then (incipitlaw17_AutoApart.l0 k x0 x3 x4 x160001 (wrap64 (x6 + 1))) else (if (bt x0 (wrap64 (x160000 - 1))) = 95 then (incipitlaw17_AutoApart.l0 k x0 x3 x4 x160001 (wrap64 (x6 + 1))) else (if (bt x0 (wrap64 (x160000 - 1))) = 126 then (incipitlaw17_AutoApart.l0 k x0 x3 x4 x160001 (wrap64 (x6 + 1))) else (if (bt x0 (wrap64 (x160000 - 1))) = 40 then (incipitlaw17_AutoApart.l0 k x0 x3 x4 x160001 (wrap64 (x6 + 1))) else (some false)))))))) else (none)) else (none)) else (incipitlaw17_AutoApart.l0 k x0 x3 x4 x160001 (wrap64 (x6 + 1))))
end
def incipitlaw17_AutoApart.f (k : Nat) (a0 : ByteArray) : Option (Bool) := (incipitlaw17_awake.f k).bind fun t154 => (if (a0.size : Int) > 1000 then (some t154) else ((auto_Find.f k a0).bind fun t155 => (incipitlaw17_AutoApart.l0 k a0 t154 t155 0 0)))
theorem incipitlaw17_AutoApart.mono_l : ∀ k, (∀ y0 y1 y2 y3 y4, LeO (incipitlaw17_AutoApart.l0 k y0 y1 y2 y3 y4) (incipitlaw17_AutoApart.l0 (k + 1) y0 y1 y2 y3 y4)) ∧ (∀ y0 y1 y2 y3 y4 y5 y6 y7, LeO (incipitlaw17_AutoApart.j1 k y0 y1 y2 y3 y4 y5 y6 y7) (incipitlaw17_AutoApart.j1 (k + 1) y0 y1 y2 y3 y4 y5 y6 y7)) ∧ (∀ y0 y1 y2 y3 y4 y5 y6 y7 y8, LeO (incipitlaw17_AutoApart.j2 k y0 y1 y2 y3 y4 y5 y6 y7 y8) (incipitlaw17_AutoApart.j2 (k + 1) y0 y1 y2 y3 y4 y5 y6 y7 y8)) ∧ (∀ y0 y1 y2 y3 y4 y5 y6 y7 y8, LeO (incipitlaw17_AutoApart.l1 k y0 y1 y2 y3 y4 y5 y6 y7 y8) (incipitlaw17_AutoApart.l1 (k + 1) y0 y1 y2 y3 y4 y5 y6 y7 y8))
  | 0 => ⟨fun _ _ _ _ _ r h => by simp [incipitlaw17_AutoApart.l0] at h, fun _ _ _ _ _ _ _ _ r h => by simp [incipitlaw17_AutoApart.j1] at h, fun _ _ _ _ _ _ _ _ _ r h => by simp [incipitlaw17_AutoApart.j2] at h, fun _ _ _ _ _ _ _ _ _ r h => by simp [incipitlaw17_AutoApart.l1] at h⟩
  | k + 1 => by
    obtain ⟨ih0, ih1, ih2, ih3⟩ := incipitlaw17_AutoApart.mono_l k
    refine ⟨?_, ?_, ?_, ?_⟩
    · intro y0 y1 y2 y3 y4
      unfold incipitlaw17_AutoApart.l0
      repeat' first
      | (with_reducible exact ih0 _ _ _ _ _)
      | (with_reducible exact ih1 _ _ _ _ _ _ _ _)
      | (with_reducible exact ih2 _ _ _ _ _ _ _ _ _)
      | (with_reducible exact ih3 _ _ _ _ _ _ _ _ _)
      | (with_reducible exact auto_Find.mono _ _)
      | (with_reducible exact incipitlaw17_awake.mono _)
      | (with_reducible exact LeO.refl _)
      | (with_reducible exact LeO.none _)
      | (with_reducible refine LeO.ite ?_ ?_)
      | (with_reducible refine LeO.bind ?_ (fun _ => ?_))
      | exact ih0 _ _ _ _ _
      | exact ih1 _ _ _ _ _ _ _ _
      | exact ih2 _ _ _ _ _ _ _ _ _
      | exact ih3 _ _ _ _ _ _ _ _ _
      | exact auto_Find.mono _ _
      | exact incipitlaw17_awake.mono _
      | exact LeO.none _
      | refine LeO.ite ?_ ?_
      | refine LeO.bind ?_ (fun _ => ?_)
    · intro y0 y1 y2 y3 y4 y5 y6 y7
      unfold incipitlaw17_AutoApart.j1
      repeat' first
      | (with_reducible exact ih0 _ _ _ _ _)
      | (with_reducible exact ih1 _ _ _ _ _ _ _ _)
      | (with_reducible exact ih2 _ _ _ _ _ _ _ _ _)
      | (with_reducible exact ih3 _ _ _ _ _ _ _ _ _)
      | (with_reducible exact auto_Find.mono _ _)
      | (with_reducible exact incipitlaw17_awake.mono _)
      | (with_reducible exact LeO.refl _)
      | (with_reducible exact LeO.none _)
      | (with_reducible refine LeO.ite ?_ ?_)
      | (with_reducible refine LeO.bind ?_ (fun _ => ?_))
      | exact ih0 _ _ _ _ _
      | exact ih1 _ _ _ _ _ _ _ _
      | exact ih2 _ _ _ _ _ _ _ _ _
      | exact ih3 _ _ _ _ _ _ _ _ _
      | exact auto_Find.mono _ _
      | exact incipitlaw17_awake.mono _
      | exact LeO.none _
      | refine LeO.ite ?_ ?_
      | refine LeO.bind ?_ (fun _ => ?_)
    · intro y0 y1 y2 y3 y4 y5 y6 y7 y8
      unfold incipitlaw17_AutoApart.j2
      repeat' first
      | (with_reducible exact ih0 _ _ _ _ _)
      | (with_reducible exact ih1 _ _ _ _ _ _ _ _)
      | (with_reducible exact ih2 _ _ _ _ _ _ _ _ _)
      | (with_reducible exact ih3 _ _ _ _ _ _ _ _ _)
      | (with_reducible exact auto_Find.mono _ _)
      | (with_reducible exact incipitlaw17_awake.mono _)
      | (with_reducible exact LeO.refl _)
      | (with_reducible exact LeO.none _)
      | (with_reducible refine LeO.ite ?_ ?_)
      | (with_reducible refine LeO.bind ?_ (fun _ => ?_))
      | exact ih0 _ _ _ _ _
      | exact ih1 _ _ _ _ _ _ _ _
      | exact ih2 _ _ _ _ _ _ _ _ _
      | exact ih3 _ _ _ _ _ _ _ _ _
      | exact auto_Find.mono _ _
      | exact incipitlaw17_awake.mono _
      | exact LeO.none _
      | refine LeO.ite ?_ ?_
      | refine LeO.bind ?_ (fun _ => ?_)
    · intro y0 y1 y2 y3 y4 y5 y6 y7 y8
      unfold incipitlaw17_AutoApart.l1
      repeat' first
      | (with_reducible exact ih0 _ _ _ _ _)
      | (with_reducible exact ih1 _ _ _ _ _ _ _ _)
      | (with_reducible exact ih2 _ _ _ _ _ _ _ _ _)
      | (with_reducible exact ih3 _ _ _ _ _ _ _ _ _)
      | (with_reducible exact auto_Find.mono _ _)
      | (with_reducible exact incipitlaw17_awake.mono _)
      | (with_reducible exact LeO.refl _)
      | (with_reducible exact LeO.none _)
      | (with_reducible refine LeO.ite ?_ ?_)
      | (with_reducible refine LeO.bind ?_ (fun _ => ?_))
      | exact ih0 _ _ _ _ _
      | exact ih1 _ _ _ _ _ _ _ _
      | exact ih2 _ _ _ _ _ _ _ _ _
      | exact ih3 _ _ _ _ _ _ _ _ _
      | exact auto_Find.mono _ _
      | exact incipitlaw17_awake.mono _
      | exact LeO.none _
      | refine LeO.ite ?_ ?_
      | refine LeO.bind ?_ (fun _ => ?_)
theorem incipitlaw17_AutoApart.mono : ∀ a0 k, LeO (incipitlaw17_AutoApart.f k a0) (incipitlaw17_AutoApart.f (k + 1) a0) := by
  intro a0 k
  obtain ⟨ih0, ih1, ih2, ih3⟩ := incipitlaw17_AutoApart.mono_l k
  unfold incipitlaw17_AutoApart.f
  repeat' first
      | (with_reducible exact ih0 _ _ _ _ _)
      | (with_reducible exact ih1 _ _ _ _ _ _ _ _)
      | (with_reducible exact ih2 _ _ _ _ _ _ _ _ _)
      | (with_reducible exact ih3 _ _ _ _ _ _ _ _ _)
      | (with_reducible exact auto_Find.mono _ _)
      | (with_reducible exact incipitlaw17_awake.mono _)
      | (with_reducible exact LeO.refl _)
      | (with_reducible exact LeO.none _)
      | (with_reducible refine LeO.ite ?_ ?_)
      | (with_reducible refine LeO.bind ?_ (fun _ => ?_))
      | exact ih0 _ _ _ _ _
      | exact ih1 _ _ _ _ _ _ _ _
      | exact ih2 _ _ _ _ _ _ _ _ _
      | exact ih3 _ _ _ _ _ _ _ _ _
      | exact auto_Find.mono _ _
      | exact incipitlaw17_awake.mono _
      | exact LeO.none _
      | refine LeO.ite ?_ ?_
      | refine LeO.bind ?_ (fun _ => ?_)
set_option maxHeartbeats 8000000 in
set_option maxRecDepth 100000 in
theorem incipitlaw17_AutoApart.calls (k : Nat) (a0 : ByteArray) (r : Bool) (w : World) (hLd : Laid w) (h : incipitlaw17_AutoApart.f k a0 = some r) :
    Calls Tryd.prog 3 #[.string a0] w fun e w' => e = .returned (.bool r) ∧ Below w.heap.size w w' := by
  have hu26 := Tryd.underlying26
  have HB := Aside0.mk (Below.refl w.heap.size w)
  have H : ((incipitlaw17_awake.f k).bind fun t154 => (if (a0.size : Int) > 1000 then (some t154) else ((auto_Find.f k a0).bind fun t155 => (incipitlaw17_AutoApart.l0 k a0 t154 t155 0 0)))) = some r := h
  clear h
  replace H := Option.bind_eq_some_iff.mp H
  obtain ⟨t154, A20, H⟩ := H
  replace H : (if (a0.size : Int) > 1000 then (some t154) else ((auto_Find.f k a0).bind fun t155 => (incipitlaw17_AutoApart.l0 k a0 t154 t155 0 0))) = some r := H
  have A2 := Aside0.mk A20
  clear A20
  by_cases c3 : (a0.size : Int) > 1000
  · rw [if_pos c3] at H
    have c3b0 : decide (1000 < (a0.size : Int)) = true := decide_eq_true c3
    have c3b1 : decide (1000 < a0.size) = true := decide_eq_true (by omega)
    clear c3
    obtain rfl := Option.some.inj H
    go_enter Tryd.func3, Tryd.ntmps3
    go_wp2_with (first | ((with_reducible refine gate_callee (f := 8) rfl ?_); refine goesL_ (some 11) rfl rfl Tryd.func8 (by kernel_rfl) rfl #[] rfl (by (try simp only [List.map_toArray, List.map_cons, List.map_nil]); first | done | rfl | (simp only [List.length_drop, List.length_take]; rfl)) ?_; (with_reducible refine (incipitlaw17_awake.calls k  t154 _ ?side1 A2.out).mono ?_); (case side1 => exact Laid.go hLd (by repeat (first | (with_reducible first | exact HB.out | apply below_alloc | apply pw_below_drewN | apply below_drew1) | exact HB.out))); rintro e w4 ⟨rfl, hb⟩; refine ⟨_, rfl, ?_⟩; have n0_ := Aside0.mk (below_step (by repeat (first | (with_reducible first | exact HB.out | apply below_alloc | apply pw_below_drewN | apply below_drew1) | exact HB.out)) hb); clear HB; have HB := n0_; clear n0_; (try clear hb); (try clear hb2); (try clear hk); (try clear hi)))
    go_ret
    exact ⟨by first | rfl | (simp [errW_none, errW_some] <;> rfl) | (simp [*, errW_none, errW_some] <;> rfl), by repeat (first | (with_reducible first | exact HB.out | apply below_alloc | apply pw_below_drewN | apply below_drew1) | exact HB.out)⟩
  · rw [if_neg c3] at H
    have c3b0 : decide (1000 < (a0.size : Int)) = false := decide_eq_false c3
    have c3b1 : decide (1000 < a0.size) = false := decide_eq_false (by omega)
    clear c3
    replace H := Option.bind_eq_some_iff.mp H
    obtain ⟨t155, A50, H⟩ := H
    replace H : (incipitlaw17_AutoApart.l0 k a0 t154 t155 0 0) = some r := H
    have A5 := Aside0.mk A50
    clear A50
    have H' := Aside0.mk H
    clear H
    go_enter Tryd.func3, Tryd.ntmps3
    go_wp2_with (first | ((with_reducible refine gate_callee (f := 8) rfl ?_); refine goesL_ (some 11) rfl rfl Tryd.func8 (by kernel_rfl) rfl #[] rfl (by (try simp only [List.map_toArray, List.map_cons, List.map_nil]); first | done | rfl | (simp only [List.length_drop, List.length_take]; rfl)) ?_; (with_reducible refine (incipitlaw17_awake.calls k  t154 _ ?side1 A2.out).mono ?_); (case side1 => exact Laid.go hLd (by repeat (first | (with_reducible first | exact HB.out | apply below_alloc | apply pw_below_drewN | apply below_drew1) | exact HB.out))); rintro e w6 ⟨rfl, hb⟩; refine ⟨_, rfl, ?_⟩; have n0_ := Aside0.mk (below_step (by repeat (first | (with_reducible first | exact HB.out | apply below_alloc | apply pw_below_drewN | apply below_drew1) | exact HB.out)) hb); clear HB; have HB := n0_; clear n0_; (try clear hb); (try clear hb2); (try clear hk); (try clear hi)) | ((with_reducible refine gate_callee (f := 9) rfl ?_); refine goesL_ (some 17) rfl rfl Tryd.func9 (by kernel_rfl) rfl #[.string a0] rfl (by (try simp only [List.map_toArray, List.map_cons, List.map_nil]); first | done | rfl | (simp only [List.length_drop, List.length_take]; rfl)) ?_; (with_reducible refine (auto_Find.calls k a0 t155 _ ?side1 A5.out).mono ?_); (case side1 => exact Laid.go hLd (by repeat (first | (with_reducible first | exact HB.out | apply below_alloc | apply pw_below_drewN | apply below_drew1) | exact HB.out))); rintro e w7 ⟨v156, rfl, ho0, hb⟩; refine ⟨_, rfl, ?_⟩; have n0_ := Aside0.mk (Kd.R_lower ho0 (below_size (by repeat (first | (with_reducible first | exact HB.out | apply below_alloc | apply pw_below_drewN | apply below_drew1) | exact HB.out)))); have n1_ := Aside0.mk (below_step (by repeat (first | (with_reducible first | exact HB.out | apply below_alloc | apply pw_below_drewN | apply below_drew1) | exact HB.out)) hb); clear HB; have HO157 := n0_; have HB := n1_; clear n0_ n1_; (try clear hb); (try clear hb2); (try clear hk); (try clear hi); (try clear ho0)))
    go_loopg [5, 6] k (fun kq v5 v6 w' => ∃ (x5_1 : Int) (x6_1 : Int), v5 = .int .i64 x5_1 ∧ v6 = .int .i64 x6_1 ∧ Aside0 (incipitlaw17_AutoApart.l0 kq a0 t154 t155 x5_1 x6_1 = some r) ∧ Aside0 (kq ≤ k) ∧ Aside0 (Kd.R k26 26 w' w.heap.size (fun _ => True) v156 t155) ∧ Aside0 (Below w.heap.size w w'))
    case atStart => exact ⟨(0), (0), (by first | rfl | (simp; done) | (simp [*]; done)), (by first | rfl | (simp; done) | (simp [*]; done)), H', ⟨Nat.le_refl _⟩, ⟨by (with_reducible repeat (first | apply Kd.R_alloc | apply Kd.R_drewN | apply Kd.R_drew)); exact HO157.out⟩, ⟨by repeat (first | (with_reducible first | exact HB.out | apply below_alloc | apply pw_below_drewN | apply below_drew1) | exact HB.out)⟩⟩
    case round =>
      clear H'
      try clear p2
      try clear c3
      try clear c3b0
      try clear c3b1
      obtain ⟨x5_1, x6_1, rfl, rfl, HA, HK1, HO_4, HB⟩ := hrel
      cases gk with
      | zero => exact absurd HA.out (by simp [incipitlaw17_AutoApart.l0])
      | succ k1 =>
        have H := HA.out
        clear HA
        simp only [incipitlaw17_AutoApart.l0] at H
        by_cases c8 : x6_1 < (t155.length : Int)
        · rw [if_pos c8] at H
          have c8b0 : decide (x6_1 < (t155.length : Int)) = true := decide_eq_true c8
          clear c8
          by_cases c9 : 0 ≤ x6_1
          · rw [if_pos c9] at H
            have c9b0 : decide (0 ≤ x6_1) = true := decide_eq_true c9
            clear c9
            have HC10 := Aside0.mk H
            clear H
            obtain ⟨Ao11, co11, eo11⟩ := Kd.R_slice HO_4.out
            subst eo11
            have p158 : 0 ≤ (x6_1 : Int) := of_decide_eq_true (by first | (with_reducible assumption) | assumption)
            have q158 : x6_1 < (t155.length : Int) := of_decide_eq_true (by first | (with_reducible assumption) | assumption)
            obtain ⟨ad158, e158, hx158_0, hx158_1, hx158_2⟩ := at_T26 (Kd.R_reads' HO_4.out).2.2 x6_1 p158 q158
            cases e158
            replace p158 := eq_true p158
            replace q158 := eq_true q158
            go_upto_region 10 with (first | ((with_reducible refine gate_dst (N := 7) rfl ?_); (try (refine gate_guard (by rfl) ?_; dsimp only)); refine box_event ?hg (N := 7) ?hd (cs := #[.int .i64 0, .int .i64 0, .string (⟨#[]⟩ : ByteArray)]) (t := 26) ?hr ?_; (case hd => rfl); (case hg => rfl); (case hr => first | (go_simp; done) | (go_simp; rfl)); intro gb159 hg w12 hbox hb; have n0_ := Aside0.mk (Kd.R_below (Kd.R_elderB (by (with_reducible repeat (first | apply Kd.R_alloc | apply Kd.R_drewN | apply Kd.R_drew)); exact HO_4.out) gb159 (Nat.le_of_eq hg.symm)) hb); have n1_ := Aside0.mk (below_step (by repeat (first | (with_reducible first | exact HB.out | apply below_alloc | apply pw_below_drewN | apply below_drew1) | exact HB.out)) hb); have n2_ := Aside0.mk (hbox); have n3_ := Aside0.mk ((by rw [hg]; exact (below_size (by repeat (first | (with_reducible first | exact HB.out | apply below_alloc | apply pw_below_drewN | apply below_drew1) | exact HB.out))) : w.heap.size ≤ gb159)); have n4_ := Aside0.mk ((by rw [hg]; exact (below_size (by repeat (first | (with_reducible first | exact HB.out | apply below_alloc | apply pw_below_drewN | apply below_drew1) | exact HB.out))) : w.heap.size ≤ gb159)); clear HO_4; clear HB; have HO_4 := n0_; have HB := n1_; have BK159 := n2_; have GW159 := n3_; have GE159 := n4_; clear n0_ n1_ n2_ n3_ n4_; clear hb hbox hg; have hcz13_0 : w12.cell? ⟨gb159, 0, none⟩ = some (.int .i64 0) := (blk_cell BK159.out 0).trans rfl; have hcz13_1 : w12.cell? ⟨gb159, 1, none⟩ = some (.int .i64 0) := (blk_cell BK159.out 1).trans rfl; have hcz13_2 : w12.cell? ⟨gb159, 2, none⟩ = some (.string (⟨#[]⟩ : ByteArray)) := (blk_cell BK159.out 2).trans rfl; have hfz13_0 := blk_frozen BK159.out 0; have hfz13_1 := blk_frozen BK159.out 1; have hfz13_2 := blk_frozen BK159.out 2))
            (try simp only [Act.put, List.setIfInBounds_toArray, List.set_cons_zero, List.set_cons_succ])
            go_cut [46] (fun v46 wc => ∃ (kq : Nat) (x46_9 : Bool), v46 = .bool x46_9 ∧ Aside0 (incipitlaw17_AutoApart.j1 kq a0 t154 t155 x6_1 x46_9 ((rd_T26 t155 x6_1).f0) ((rd_T26 t155 x6_1).f1) ((rd_T26 t155 x6_1).f2) = some r) ∧ Aside0 (kq ≤ k1) ∧ Aside0 (Kd.R k26 26 wc w.heap.size (fun k_ => k_ ≠ gb159) (.slice (some ad158) t155.length co11) t155) ∧ Aside0 (wc.heap[gb159]? = some (.cells #[.int .i64 ((rd_T26 t155 x6_1).f0), .int .i64 ((rd_T26 t155 x6_1).f1), .string ((rd_T26 t155 x6_1).f2)] 26 (0, 0))) ∧ Aside0 (Below w.heap.size w wc))
            case first =>
              have H := HC10.out
              clear HC10
              by_cases c14 : ((rd_T26 t155 x6_1).f0) < x5_1
              · rw [if_pos c14] at H
                have c14b0 : decide (((rd_T26 t155 x6_1).f0) < x5_1) = true := decide_eq_true c14
                clear c14
                (first | rw [c14b0] | (simp only [i64_w, i32_w]; rw [c14b0]) | skip)
                have H' := Aside0.mk H
                clear H
                have hcz15_0 : w12.cell? ⟨gb159, 0, none⟩ = some (.int .i64 0) := (blk_cell BK159.out 0).trans rfl
                have hcz15_1 : w12.cell? ⟨gb159, 1, none⟩ = some (.int .i64 0) := (blk_cell BK159.out 1).trans rfl
                have hcz15_2 : w12.cell? ⟨gb159, 2, none⟩ = some (.string (⟨#[]⟩ : ByteArray)) := (blk_cell BK159.out 2).trans rfl
                have hfz15_0 := blk_frozen BK159.out 0
                have hfz15_1 := blk_frozen BK159.out 1
                have hfz15_2 := blk_frozen BK159.out 2
                go_wp2
                go_meet
                case rel => exact ⟨_, (true), (by first | rfl | (simp; done) | (simp [*]; done)), H', ⟨by have := HK1.out; first | omega | exact Nat.le_refl _⟩, ⟨by (with_reducible repeat (first | apply Kd.R_alloc | apply Kd.R_drewN | apply Kd.R_drew)); exact Kd.R_mono (Kd.R_far (p := ⟨gb159, 2, none⟩) (Kd.R_far (p := ⟨gb159, 1, none⟩) (Kd.R_far (p := ⟨gb159, 0, none⟩) (Kd.R_mono HO_4.out (fun k_ hk => (⟨hk, hk.2⟩ : _ ∧ k_ ≠ gb159))) (fun _ hk => hk.2) (.int .i64 ((rd_T26 t155 x6_1).f0))) (fun _ hk => hk.2) (.int .i64 ((rd_T26 t155 x6_1).f1))) (fun _ hk => hk.2) (.string ((rd_T26 t155 x6_1).f2))) (fun _ hk => hk.1.2)⟩, ⟨by (with_reducible repeat (first | refine blk_drewN ?_ _ | refine blk_drew ?_ | refine blk_alloc ?_ _)); refine blk_put (cs := #[.int .i64 ((rd_T26 t155 x6_1).f0), .int .i64 ((rd_T26 t155 x6_1).f1), .string (⟨#[]⟩ : ByteArray)]) ?_ 2 _ rfl; (with_reducible repeat (first | refine blk_drewN ?_ _ | refine blk_drew ?_ | refine blk_alloc ?_ _)); refine blk_put (cs := #[.int .i64 ((rd_T26 t155 x6_1).f0), .int .i64 0, .string (⟨#[]⟩ : ByteArray)]) ?_ 1 _ rfl; (with_reducible repeat (first | refine blk_drewN ?_ _ | refine blk_drew ?_ | refine blk_alloc ?_ _)); refine blk_put (cs := #[.int .i64 0, .int .i64 0, .string (⟨#[]⟩ : ByteArray)]) ?_ 0 _ rfl; (with_reducible repeat (first | refine blk_drewN ?_ _ | refine blk_drew ?_ | refine blk_alloc ?_ _)); exact BK159.out⟩, ⟨by repeat (first | (with_reducible first | exact HB.out | apply below_alloc | apply pw_below_drewN | apply below_drew1 | refine below_set ?_ GE159.out) | exact HB.out)⟩⟩
              · rw [if_neg c14] at H
                have c14b0 : decide (((rd_T26 t155 x6_1).f0) < x5_1) = false := decide_eq_false c14
                clear c14
                (first | rw [c14b0] | (simp only [i64_w, i32_w]; rw [c14b0]) | skip)
                by_cases c16 : ((rd_T26 t155 x6_1).f1) ≤ (wrap64 (((rd_T26 t155 x6_1).f0) + 2))
                · rw [if_pos c16] at H
                  have c16b0 : decide (((rd_T26 t155 x6_1).f1) ≤ (wrap64 (((rd_T26 t155 x6_1).f0) + 2))) = true := decide_eq_true c16
                  clear c16
                  have H' := Aside0.mk H
                  clear H
                  have hcz17_0 : w12.cell? ⟨gb159, 0, none⟩ = some (.int .i64 0) := (blk_cell BK159.out 0).trans rfl
                  have hcz17_1 : w12.cell? ⟨gb159, 1, none⟩ = some (.int .i64 0) := (blk_cell BK159.out 1).trans rfl
                  have hcz17_2 : w12.cell? ⟨gb159, 2, none⟩ = some (.string (⟨#[]⟩ : ByteArray)) := (blk_cell BK159.out 2).trans rfl
                  have hfz17_0 := blk_frozen BK159.out 0
                  have hfz17_1 := blk_frozen BK159.out 1
                  have hfz17_2 := blk_frozen BK159.out 2
                  go_wp2
                  go_meet
                  case rel => exact ⟨_, (true), (by first | rfl | (simp; done) | (simp [*]; done)), H', ⟨by have := HK1.out; first | omega | exact Nat.le_refl _⟩, ⟨by (with_reducible repeat (first | apply Kd.R_alloc | apply Kd.R_drewN | apply Kd.R_drew)); exact Kd.R_mono (Kd.R_far (p := ⟨gb159, 2, none⟩) (Kd.R_far (p := ⟨gb159, 1, none⟩) (Kd.R_far (p := ⟨gb159, 0, none⟩) (Kd.R_mono HO_4.out (fun k_ hk => (⟨hk, hk.2⟩ : _ ∧ k_ ≠ gb159))) (fun _ hk => hk.2) (.int .i64 ((rd_T26 t155 x6_1).f0))) (fun _ hk => hk.2) (.int .i64 ((rd_T26 t155 x6_1).f1))) (fun _ hk => hk.2) (.string ((rd_T26 t155 x6_1).f2))) (fun _ hk => hk.1.2)⟩, ⟨by (with_reducible repeat (first | refine blk_drewN ?_ _ | refine blk_drew ?_ | refine blk_alloc ?_ _)); refine blk_put (cs := #[.int .i64 ((rd_T26 t155 x6_1).f0), .int .i64 ((rd_T26 t155 x6_1).f1), .string (⟨#[]⟩ : ByteArray)]) ?_ 2 _ rfl; (with_reducible repeat (first | refine blk_drewN ?_ _ | refine blk_drew ?_ | refine blk_alloc ?_ _)); refine blk_put (cs := #[.int .i64 ((rd_T26 t155 x6_1).f0), .int .i64 0, .string (⟨#[]⟩ : ByteArray)]) ?_ 1 _ rfl; (with_reducible repeat (first | refine blk_drewN ?_ _ | refine blk_drew ?_ | refine blk_alloc ?_ _)); refine blk_put (cs := #[.int .i64 0, .int .i64 0, .string (⟨#[]⟩ : ByteArray)]) ?_ 0 _ rfl; (with_reducible repeat (first | refine blk_drewN ?_ _ | refine blk_drew ?_ | refine blk_alloc ?_ _)); exact BK159.out⟩, ⟨by repeat (first | (with_reducible first | exact HB.out | apply below_alloc | apply pw_below_drewN | apply below_drew1 | refine below_set ?_ GE159.out) | exact HB.out)⟩⟩
                · rw [if_neg c16] at H
                  have c16b0 : decide (((rd_T26 t155 x6_1).f1) ≤ (wrap64 (((rd_T26 t155 x6_1).f0) + 2))) = false := decide_eq_false c16
                  clear c16
                  have H' := Aside0.mk H
                  clear H
                  have hcz18_0 : w12.cell? ⟨gb159, 0, none⟩ = some (.int .i64 0) := (blk_cell BK159.out 0).trans rfl
                  have hcz18_1 : w12.cell? ⟨gb159, 1, none⟩ = some (.int .i64 0) := (blk_cell BK159.out 1).trans rfl
                  have hcz18_2 : w12.cell? ⟨gb159, 2, none⟩ = some (.string (⟨#[]⟩ : ByteArray)) := (blk_cell BK159.out 2).trans rfl
                  have hfz18_0 := blk_frozen BK159.out 0
                  have hfz18_1 := blk_frozen BK159.out 1
                  have hfz18_2 := blk_frozen BK159.out 2
                  go_wp2
                  go_meet
                  case rel => exact ⟨_, (decide (((rd_T26 t155 x6_1).f1) > (a0.size : Int))), (by first | rfl | (simp; done) | (simp [*]; done)), H', ⟨by have := HK1.out; first | omega | exact Nat.le_refl _⟩, ⟨by (with_reducible repeat (first | apply Kd.R_alloc | apply Kd.R_drewN | apply Kd.R_drew)); exact Kd.R_mono (Kd.R_far (p := ⟨gb159, 2, none⟩) (Kd.R_far (p := ⟨gb159, 1, none⟩) (Kd.R_far (p := ⟨gb159, 0, none⟩) (Kd.R_mono HO_4.out (fun k_ hk => (⟨hk, hk.2⟩ : _ ∧ k_ ≠ gb159))) (fun _ hk => hk.2) (.int .i64 ((rd_T26 t155 x6_1).f0))) (fun _ hk => hk.2) (.int .i64 ((rd_T26 t155 x6_1).f1))) (fun _ hk => hk.2) (.string ((rd_T26 t155 x6_1).f2))) (fun _ hk => hk.1.2)⟩, ⟨by (with_reducible repeat (first | refine blk_drewN ?_ _ | refine blk_drew ?_ | refine blk_alloc ?_ _)); refine blk_put (cs := #[.int .i64 ((rd_T26 t155 x6_1).f0), .int .i64 ((rd_T26 t155 x6_1).f1), .string (⟨#[]⟩ : ByteArray)]) ?_ 2 _ rfl; (with_reducible repeat (first | refine blk_drewN ?_ _ | refine blk_drew ?_ | refine blk_alloc ?_ _)); refine blk_put (cs := #[.int .i64 ((rd_T26 t155 x6_1).f0), .int .i64 0, .string (⟨#[]⟩ : ByteArray)]) ?_ 1 _ rfl; (with_reducible repeat (first | refine blk_drewN ?_ _ | refine blk_drew ?_ | refine blk_alloc ?_ _)); refine blk_put (cs := #[.int .i64 0, .int .i64 0, .string (⟨#[]⟩ : ByteArray)]) ?_ 0 _ rfl; (with_reducible repeat (first | refine blk_drewN ?_ _ | refine blk_drew ?_ | refine blk_alloc ?_ _)); exact BK159.out⟩, ⟨by repeat (first | (with_reducible first | exact HB.out | apply below_alloc | apply pw_below_drewN | apply below_drew1 | refine below_set ?_ GE159.out) | exact HB.out)⟩⟩
            case rest =>
              clear HC10
              try clear c1
              try clear p1
              try clear q1
              try clear hx1
              try clear p2
              try clear c3
              try clear c3b0
              try clear c3b1
              try clear p6
              try clear c8
              try clear c8b0
              try clear c9
              try clear c9b0
              try clear c14
              try clear c14b0
              try clear p15
              try clear q15
              try clear hx15
              try clear c16
              try clear c16b0
              try clear hcz13_0
              try clear hcz13_1
              try clear hcz13_2
              try clear hcz15_0
              try clear hcz15_1
              try clear hcz15_2
              try clear hcz17_0
              try clear hcz17_1
              try clear hcz17_2
              try clear hcz18_0
              try clear hcz18_1
              try clear hcz18_2
              try clear hfz13_0
              try clear hfz13_1
              try clear hfz13_2
              try clear hfz15_0
              try clear hfz15_1
              try clear hfz15_2
              try clear hfz17_0
              try clear hfz17_1
              try clear hfz17_2
              try clear hfz18_0
              try clear hfz18_1
              try clear hfz18_2
              try clear hx158_0
              try clear hx158_1
              try clear hx158_2
              try clear p158
              try clear p2
              try clear q158
              obtain ⟨kq, x46_9, rfl, HA, HJ9, HO_4, BK159, HB⟩ := hcut
              cases kq with
              | zero => exact absurd HA.out (by simp [incipitlaw17_AutoApart.j1])
              | succ kj9 =>
                have H := HA.out
                clear HA
                simp only [incipitlaw17_AutoApart.j1] at H
                by_cases c19 : x46_9 = true
                · subst c19
                  have H1 : (some false) = some r := by rw [if_pos rfl] at H; exact H
                  clear H
                  have H := H1
                  clear H1
                  obtain rfl := Option.some.inj H
                  go_wp2
                  go_ret
                  exact ⟨by first | rfl | (simp [errW_none, errW_some] <;> rfl) | (simp [*, errW_none, errW_some] <;> rfl), by repeat (first | (with_reducible first | exact HB.out | apply below_alloc | apply pw_below_drewN | apply below_drew1 | refine below_set ?_ GE159.out) | exact HB.out)⟩
                · replace c19 := Bool.eq_false_iff.mpr c19
                  subst c19
                  have H1 : (if 0 ≤ ((rd_T26 t155 x6_1).f0) then (if ((rd_T26 t155 x6_1).f0) ≤ ((rd_T26 t155 x6_1).f1) then (if ((rd_T26 t155 x6_1).f1) ≤ (a0.size : Int) then (if ((rd_T26 t155 x6_1).f2).toList = (a0.extract (((rd_T26 t155 x6_1).f0) : Int).toNat (((rd_T26 t155 x6_1).f1) : Int).toNat).toList then (incipitlaw17_AutoApart.j2 kj9 a0 t154 t155 x6_1 (a0.extract (((rd_T26 t155 x6_1).f0) : Int).toNat (((rd_T26 t155 x6_1).f1) : Int).toNat) false ((rd_T26 t155 x6_1).f0) ((rd_T26 t155 x6_1).f1) ((rd_T26 t155 x6_1).f2)) else (if 7 + (a0.extract (((rd_T26 t155 x6_1).f0) : Int).toNat (((rd_T26 t155 x6_1).f1) : Int).toNat).size ≤ 9223372036854775807 then (if ((rd_T26 t155 x6_1).f2).toList = ((⟨#[104, 116, 116, 112, 58, 47, 47]⟩ : ByteArray) ++ (a0.extract (((rd_T26 t155 x6_1).f0) : Int).toNat (((rd_T26 t155 x6_1).f1) : Int).toNat)).toList then (incipitlaw17_AutoApart.j2 kj9 a0 t154 t155 x6_1 (a0.extract (((rd_T26 t155 x6_1).f0) : Int).toNat (((rd_T26 t155 x6_1).f1) : Int).toNat) false ((rd_T26 t155 x6_1).f0) ((rd_T26 t155 x6_1).f1) ((rd_T26 t155 x6_1).f2)) else (incipitlaw17_AutoApart.j2 kj9 a0 t154 t155 x6_1 (a0.extract (((rd_T26 t155 x6_1).f0) : Int).toNat (((rd_T26 t155 x6_1).f1) : Int).toNat) (((rd_T26 t155 x6_1).f2).toList != ((⟨#[109, 97, 105, 108, 116, 111, 58]⟩ : ByteArray) ++ (a0.extract (((rd_T26 t155 x6_1).f0) : Int).toNat (((rd_T26 t155 x6_1).f1) : Int).toNat)).toList) ((rd_T26 t155 x6_1).f0) ((rd_T26 t155 x6_1).f1) ((rd_T26 t155 x6_1).f2))) else (none))) else (none)) else (none)) else (none)) = some r := by rw [if_neg (show ¬ (false = true) by decide)] at H; exact H
                  clear H
                  have H := H1
                  clear H1
                  by_cases c20 : 0 ≤ ((rd_T26 t155 x6_1).f0)
                  · rw [if_pos c20] at H
                    have c20b0 := eq_true c20
                    have c20b1 : decide (0 ≤ ((rd_T26 t155 x6_1).f0)) = true := decide_eq_true c20
                    clear c20
                    by_cases c21 : ((rd_T26 t155 x6_1).f0) ≤ ((rd_T26 t155 x6_1).f1)
                    · rw [if_pos c21] at H
                      have c21b0 := eq_true c21
                      have c21b1 : decide (((rd_T26 t155 x6_1).f0) ≤ ((rd_T26 t155 x6_1).f1)) = true := decide_eq_true c21
                      clear c21
                      by_cases c22 : ((rd_T26 t155 x6_1).f1) ≤ (a0.size : Int)
                      · rw [if_pos c22] at H
                        have c22b0 := eq_true c22
                        have c22b1 : decide (((rd_T26 t155 x6_1).f1) ≤ (a0.size : Int)) = true := decide_eq_true c22
                        clear c22
                        have HC23 := Aside0.mk H
                        clear H
                        have hcz24_0 : wc.cell? ⟨gb159, 0, none⟩ = some (.int .i64 ((rd_T26 t155 x6_1).f0)) := (blk_cell BK159.out 0).trans rfl
                        have hcz24_1 : wc.cell? ⟨gb159, 1, none⟩ = some (.int .i64 ((rd_T26 t155 x6_1).f1)) := (blk_cell BK159.out 1).trans rfl
                        have hcz24_2 : wc.cell? ⟨gb159, 2, none⟩ = some (.string ((rd_T26 t155 x6_1).f2)) := (blk_cell BK159.out 2).trans rfl
                        have hfz24_0 := blk_frozen BK159.out 0
                        have hfz24_1 := blk_frozen BK159.out 1
                        have hfz24_2 := blk_frozen BK159.out 2
                        go_upto_region 13 with (fail)
                        go_cut [70] (fun v70 wc => ∃ (kq : Nat) (x70_22 : Bool), v70 = .bool x70_22 ∧ Aside0 (incipitlaw17_AutoApart.j2 kq a0 t154 t155 x6_1 (a0.extract (((rd_T26 t155 x6_1).f0) : Int).toNat (((rd_T26 t155 x6_1).f1) : Int).toNat) x70_22 ((rd_T26 t155 x6_1).f0) ((rd_T26 t155 x6_1).f1) ((rd_T26 t155 x6_1).f2) = some r) ∧ Aside0 (kq ≤ kj9) ∧ Aside0 (Kd.R k26 26 wc w.heap.size (fun k_ => k_ ≠ gb159) (.slice (some ad158) t155.length co11) t155) ∧ Aside0 (wc.heap[gb159]? = some (.cells #[.int .i64 ((rd_T26 t155 x6_1).f0), .int .i64 ((rd_T26 t155 x6_1).f1), .string ((rd_T26 t155 x6_1).f2)] 26 (0, 0))) ∧ Aside0 (Below w.heap.size w wc))
                        case first =>
                          have H := HC23.out
                          clear HC23
                          by_cases c25 : ((rd_T26 t155 x6_1).f2).toList = (a0.extract (((rd_T26 t155 x6_1).f0) : Int).toNat (((rd_T26 t155 x6_1).f1) : Int).toNat).toList
                          · rw [if_pos c25] at H
                            have c25b0 : (((rd_T26 t155 x6_1).f2).toList == (a0.extract (((rd_T26 t155 x6_1).f0) : Int).toNat (((rd_T26 t155 x6_1).f1) : Int).toNat).toList) = true := beq_iff_eq.mpr c25
                            have c25b1 : (((rd_T26 t155 x6_1).f2).toList != (a0.extract (((rd_T26 t155 x6_1).f0) : Int).toNat (((rd_T26 t155 x6_1).f1) : Int).toNat).toList) = false := bne_eq_false_iff_eq.mpr c25
                            clear c25
                            (first | rw [c25b0] | (simp only [i64_w, i32_w]; rw [c25b0]) | skip)
                            have H' := Aside0.mk H
                            clear H
                            have hcz26_0 : wc.cell? ⟨gb159, 0, none⟩ = some (.int .i64 ((rd_T26 t155 x6_1).f0)) := (blk_cell BK159.out 0).trans rfl
                            have hcz26_1 : wc.cell? ⟨gb159, 1, none⟩ = some (.int .i64 ((rd_T26 t155 x6_1).f1)) := (blk_cell BK159.out 1).trans rfl
                            have hcz26_2 : wc.cell? ⟨gb159, 2, none⟩ = some (.string ((rd_T26 t155 x6_1).f2)) := (blk_cell BK159.out 2).trans rfl
                            have hfz26_0 := blk_frozen BK159.out 0
                            have hfz26_1 := blk_frozen BK159.out 1
                            have hfz26_2 := blk_frozen BK159.out 2
                            go_wp2
                            go_meet
                            case rel => exact ⟨_, (false), (by first | rfl | (simp; done) | (simp [*]; done)), H', ⟨by have := HK1.out; have := HJ9.out; first | omega | exact Nat.le_refl _⟩, ⟨by (with_reducible repeat (first | apply Kd.R_alloc | apply Kd.R_drewN | apply Kd.R_drew)); exact HO_4.out⟩, ⟨by (with_reducible repeat (first | refine blk_drewN ?_ _ | refine blk_drew ?_ | refine blk_alloc ?_ _)); exact BK159.out⟩, ⟨by repeat (first | (with_reducible first | exact HB.out | apply below_alloc | apply pw_below_drewN | apply below_drew1 | refine below_set ?_ GE159.out) | exact HB.out)⟩⟩
                          · rw [if_neg c25] at H
                            have c25b0 : (((rd_T26 t155 x6_1).f2).toList == (a0.extract (((rd_T26 t155 x6_1).f0) : Int).toNat (((rd_T26 t155 x6_1).f1) : Int).toNat).toList) = false := beq_eq_false_iff_ne.mpr c25
                            have c25b1 : (((rd_T26 t155 x6_1).f2).toList != (a0.extract (((rd_T26 t155 x6_1).f0) : Int).toNat (((rd_T26 t155 x6_1).f1) : Int).toNat).toList) = true := bne_iff_ne.mpr c25
                            (first | rw [c25b0] | (simp only [i64_w, i32_w]; rw [c25b0]) | skip)
                            by_cases c27 : 7 + (a0.extract (((rd_T26 t155 x6_1).f0) : Int).toNat (((rd_T26 t155 x6_1).f1) : Int).toNat).size ≤ 9223372036854775807
                            · rw [if_pos c27] at H
                              have c27b0 := eq_true c27
                              have c27b1 : decide (7 + (a0.extract (((rd_T26 t155 x6_1).f0) : Int).toNat (((rd_T26 t155 x6_1).f1) : Int).toNat).size ≤ 9223372036854775807) = true := decide_eq_true c27
                              have c27b4 := c27
                              (try simp only [ByteArray.size_append, ByteArray.size_extract, Nat.min_self] at c27b4)
                              (try have c27b5 := Nat.not_lt.2 c27b4)
                              (try have c27b7 : ¬ 9223372036854775807 < 7 + (a0.extract (((rd_T26 t155 x6_1).f0) : Int).toNat (((rd_T26 t155 x6_1).f1) : Int).toNat).size := by have hh := c27; simp only [ByteArray.size_append] at hh; exact Nat.not_lt.2 hh)
                              (try have c27b8 : ¬ 9223372036854775807 < 7 + ((((rd_T26 t155 x6_1).f1) : Int).toNat - (((rd_T26 t155 x6_1).f0) : Int).toNat) := by have hh := c27; (try simp only [decide_eq_true_eq] at *); simp only [ByteArray.size_extract] at hh; omega)
                              try have c27b2 : (9223372036854775807 < 7 + (a0.extract (((rd_T26 t155 x6_1).f0) : Int).toNat (((rd_T26 t155 x6_1).f1) : Int).toNat).size) = False := eq_false (Nat.not_lt.2 c27)
                              by_cases c28 : ((rd_T26 t155 x6_1).f2).toList = ((⟨#[104, 116, 116, 112, 58, 47, 47]⟩ : ByteArray) ++ (a0.extract (((rd_T26 t155 x6_1).f0) : Int).toNat (((rd_T26 t155 x6_1).f1) : Int).toNat)).toList
                              · rw [if_pos c28] at H
                                have c28b0 : (((rd_T26 t155 x6_1).f2).toList == ((⟨#[104, 116, 116, 112, 58, 47, 47]⟩ : ByteArray) ++ (a0.extract (((rd_T26 t155 x6_1).f0) : Int).toNat (((rd_T26 t155 x6_1).f1) : Int).toNat)).toList) = true := beq_iff_eq.mpr c28
                                have c28b1 : (((rd_T26 t155 x6_1).f2).toList != ((⟨#[104, 116, 116, 112, 58, 47, 47]⟩ : ByteArray) ++ (a0.extract (((rd_T26 t155 x6_1).f0) : Int).toNat (((rd_T26 t155 x6_1).f1) : Int).toNat)).toList) = false := bne_eq_false_iff_eq.mpr c28
                                clear c28
                                have H' := Aside0.mk H
                                clear H
                                have hcz29_0 : wc.cell? ⟨gb159, 0, none⟩ = some (.int .i64 ((rd_T26 t155 x6_1).f0)) := (blk_cell BK159.out 0).trans rfl
                                have hcz29_1 : wc.cell? ⟨gb159, 1, none⟩ = some (.int .i64 ((rd_T26 t155 x6_1).f1)) := (blk_cell BK159.out 1).trans rfl
                                have hcz29_2 : wc.cell? ⟨gb159, 2, none⟩ = some (.string ((rd_T26 t155 x6_1).f2)) := (blk_cell BK159.out 2).trans rfl
                                have hfz29_0 := blk_frozen BK159.out 0
                                have hfz29_1 := blk_frozen BK159.out 1
                                have hfz29_2 := blk_frozen BK159.out 2
                                go_wp2
                                go_meet
                                case rel => exact ⟨_, (false), (by first | rfl | (simp; done) | (simp [*]; done)), H', ⟨by have := HK1.out; have := HJ9.out; first | omega | exact Nat.le_refl _⟩, ⟨by (with_reducible repeat (first | apply Kd.R_alloc | apply Kd.R_drewN | apply Kd.R_drew)); exact HO_4.out⟩, ⟨by (with_reducible repeat (first | refine blk_drewN ?_ _ | refine blk_drew ?_ | refine blk_alloc ?_ _)); exact BK159.out⟩, ⟨by repeat (first | (with_reducible first | exact HB.out | apply below_alloc | apply pw_below_drewN | apply below_drew1 | refine below_set ?_ GE159.out) | exact HB.out)⟩⟩
                              · rw [if_neg c28] at H
                                have c28b0 : (((rd_T26 t155 x6_1).f2).toList == ((⟨#[104, 116, 116, 112, 58, 47, 47]⟩ : ByteArray) ++ (a0.extract (((rd_T26 t155 x6_1).f0) : Int).toNat (((rd_T26 t155 x6_1).f1) : Int).toNat)).toList) = false := beq_eq_false_iff_ne.mpr c28
                                have c28b1 : (((rd_T26 t155 x6_1).f2).toList != ((⟨#[104, 116, 116, 112, 58, 47, 47]⟩ : ByteArray) ++ (a0.extract (((rd_T26 t155 x6_1).f0) : Int).toNat (((rd_T26 t155 x6_1).f1) : Int).toNat)).toList) = true := bne_iff_ne.mpr c28
                                have H' := Aside0.mk H
                                clear H
                                have hcz30_0 : wc.cell? ⟨gb159, 0, none⟩ = some (.int .i64 ((rd_T26 t155 x6_1).f0)) := (blk_cell BK159.out 0).trans rfl
                                have hcz30_1 : wc.cell? ⟨gb159, 1, none⟩ = some (.int .i64 ((rd_T26 t155 x6_1).f1)) := (blk_cell BK159.out 1).trans rfl
                                have hcz30_2 : wc.cell? ⟨gb159, 2, none⟩ = some (.string ((rd_T26 t155 x6_1).f2)) := (blk_cell BK159.out 2).trans rfl
                                have hfz30_0 := blk_frozen BK159.out 0
                                have hfz30_1 := blk_frozen BK159.out 1
                                have hfz30_2 := blk_frozen BK159.out 2
                                go_wp2
                                go_meet
                                case rel => exact ⟨_, ((((rd_T26 t155 x6_1).f2).toList != ((⟨#[109, 97, 105, 108, 116, 111, 58]⟩ : ByteArray) ++ (a0.extract (((rd_T26 t155 x6_1).f0) : Int).toNat (((rd_T26 t155 x6_1).f1) : Int).toNat)).toList)), (by first | rfl | (simp; done) | (simp [*]; done)), H', ⟨by have := HK1.out; have := HJ9.out; first | omega | exact Nat.le_refl _⟩, ⟨by (with_reducible repeat (first | apply Kd.R_alloc | apply Kd.R_drewN | apply Kd.R_drew)); exact HO_4.out⟩, ⟨by (with_reducible repeat (first | refine blk_drewN ?_ _ | refine blk_drew ?_ | refine blk_alloc ?_ _)); exact BK159.out⟩, ⟨by repeat (first | (with_reducible first | exact HB.out | apply below_alloc | apply pw_below_drewN | apply below_drew1 | refine below_set ?_ GE159.out) | exact HB.out)⟩⟩
                            · rw [if_neg c27] at H
                              exact absurd H (by simp)
                        case rest =>
                          clear HC23
                          try clear c1
                          try clear p1
                          try clear q1
                          try clear hx1
                          try clear c2
                          try clear p2
                          try clear c3
                          try clear c3b0
                          try clear c3b1
                          try clear p6
                          try clear c8
                          try clear c8b0
                          try clear c9
                          try clear c9b0
                          try clear c14
                          try clear c14b0
                          try clear p15
                          try clear q15
                          try clear hx15
                          try clear c16
                          try clear c16b0
                          try clear c19
                          try clear c20
                          try clear c20b0
                          try clear c20b1
                          try clear c21
                          try clear c21b0
                          try clear c21b1
                          try clear c22
                          try clear c22b0
                          try clear c22b1
                          try clear c25
                          try clear c25b0
                          try clear c25b1
                          try clear c27
                          try clear c27b0
                          try clear c27b1
                          try clear c27b2
                          try clear c28
                          try clear c28b0
                          try clear c28b1
                          try clear hcz13_0
                          try clear hcz13_1
                          try clear hcz13_2
                          try clear hcz15_0
                          try clear hcz15_1
                          try clear hcz15_2
                          try clear hcz17_0
                          try clear hcz17_1
                          try clear hcz17_2
                          try clear hcz18_0
                          try clear hcz18_1
                          try clear hcz18_2
                          try clear hcz24_0
                          try clear hcz24_1
                          try clear hcz24_2
                          try clear hcz26_0
                          try clear hcz26_1
                          try clear hcz26_2
                          try clear hcz29_0
                          try clear hcz29_1
                          try clear hcz29_2
                          try clear hcz30_0
                          try clear hcz30_1
                          try clear hcz30_2
                          try clear hfz13_0
                          try clear hfz13_1
                          try clear hfz13_2
                          try clear hfz15_0
                          try clear hfz15_1
                          try clear hfz15_2
                          try clear hfz17_0
                          try clear hfz17_1
                          try clear hfz17_2
                          try clear hfz18_0
                          try clear hfz18_1
                          try clear hfz18_2
                          try clear hfz24_0
                          try clear hfz24_1
                          try clear hfz24_2
                          try clear hfz26_0
                          try clear hfz26_1
                          try clear hfz26_2
                          try clear hfz29_0
                          try clear hfz29_1
                          try clear hfz29_2
                          try clear hfz30_0
                          try clear hfz30_1
                          try clear hfz30_2
                          try clear hx158_0
                          try clear hx158_1
                          try clear hx158_2
                          try clear p1
                          try clear p15
                          try clear p158
                          try clear p2
                          try clear p6
                          try clear q1
                          try clear q15
                          try clear q158
                          obtain ⟨kq, x70_22, rfl, HA, HJ22, HO_4, BK159, HB⟩ := hcut
                          cases kq with
                          | zero => exact absurd HA.out (by simp [incipitlaw17_AutoApart.j2])
                          | succ kj22 =>
                            have H := HA.out
                            clear HA
                            simp only [incipitlaw17_AutoApart.j2] at H
                            by_cases c31 : x70_22 = true
                            · subst c31
                              have H1 : (some false) = some r := by rw [if_pos rfl] at H; exact H
                              clear H
                              have H := H1
                              clear H1
                              obtain rfl := Option.some.inj H
                              go_wp2
                              go_ret
                              exact ⟨by first | rfl | (simp [errW_none, errW_some] <;> rfl) | (simp [*, errW_none, errW_some] <;> rfl), by repeat (first | (with_reducible first | exact HB.out | apply below_alloc | apply pw_below_drewN | apply below_drew1 | refine below_set ?_ GE159.out) | exact HB.out)⟩
                            · replace c31 := Bool.eq_false_iff.mpr c31
                              subst c31
                              have H1 : (incipitlaw17_AutoApart.l1 kj22 a0 t154 t155 x6_1 (a0.extract (((rd_T26 t155 x6_1).f0) : Int).toNat (((rd_T26 t155 x6_1).f1) : Int).toNat) 0 ((rd_T26 t155 x6_1).f0) ((rd_T26 t155 x6_1).f1) ((rd_T26 t155 x6_1).f2)) = some r := by rw [if_neg (show ¬ (false = true) by decide)] at H; exact H
                              clear H
                              have H := H1
                              clear H1
                              have H' := Aside0.mk H
                              clear H
                              go_wp2
                              go_loopg [9] kj22 (fun kq v9 w' => ∃ (x9_4 : Int), v9 = .int .i64 x9_4 ∧ Aside0 (incipitlaw17_AutoApart.l1 kq a0 t154 t155 x6_1 (a0.extract (((rd_T26 t155 x6_1).f0) : Int).toNat (((rd_T26 t155 x6_1).f1) : Int).toNat) x9_4 ((rd_T26 t155 x6_1).f0) ((rd_T26 t155 x6_1).f1) ((rd_T26 t155 x6_1).f2) = some r) ∧ Aside0 (kq ≤ kj22) ∧ Aside0 (Kd.R k26 26 w' w.heap.size (fun k_ => k_ ≠ gb159) (.slice (some ad158) t155.length co11) t155) ∧ Aside0 (w'.heap[gb159]? = some (.cells #[.int .i64 ((rd_T26 t155 x6_1).f0), .int .i64 ((rd_T26 t155 x6_1).f1), .string ((rd_T26 t155 x6_1).f2)] 26 (0, 0))) ∧ Aside0 (Below w.heap.size w w'))
                              case atStart => exact ⟨(0), (by first | rfl | (simp; done) | (simp [*]; done)), H', ⟨Nat.le_refl _⟩, ⟨by (with_reducible repeat (first | apply Kd.R_alloc | apply Kd.R_drewN | apply Kd.R_drew)); exact HO_4.out⟩, ⟨by (with_reducible repeat (first | refine blk_drewN ?_ _ | refine blk_drew ?_ | refine blk_alloc ?_ _)); exact BK159.out⟩, ⟨by repeat (first | (with_reducible first | exact HB.out | apply below_alloc | apply pw_below_drewN | apply below_drew1 | refine below_set ?_ GE159.out) | exact HB.out)⟩⟩
                              case round =>
                                clear H'
                                try clear c1
                                try clear p1
                                try clear q1
                                try clear hx1
                                try clear c2
                                try clear p2
                                try clear c3
                                try clear c3b0
                                try clear c3b1
                                try clear p6
                                try clear c8
                                try clear c8b0
                                try clear c9
                                try clear c9b0
                                try clear c14
                                try clear c14b0
                                try clear p15
                                try clear q15
                                try clear hx15
                                try clear c16
                                try clear c16b0
                                try clear c19
                                try clear c20
                                try clear c20b0
                                try clear c20b1
                                try clear c21
                                try clear c21b0
                                try clear c21b1
                                try clear c22
                                try clear c22b0
                                try clear c22b1
                                try clear c25
                                try clear c25b0
                                try clear c25b1
                                try clear c27
                                try clear c27b0
                                try clear c27b1
                                try clear c27b2
                                try clear c28
                                try clear c28b0
                                try clear c28b1
                                try clear c31
                                try clear hcz13_0
                                try clear hcz13_1
                                try clear hcz13_2
                                try clear hcz15_0
                                try clear hcz15_1
                                try clear hcz15_2
                                try clear hcz17_0
                                try clear hcz17_1
                                try clear hcz17_2
                                try clear hcz18_0
                                try clear hcz18_1
                                try clear hcz18_2
                                try clear hcz24_0
                                try clear hcz24_1
                                try clear hcz24_2
                                try clear hcz26_0
                                try clear hcz26_1
                                try clear hcz26_2
                                try clear hcz29_0
                                try clear hcz29_1
                                try clear hcz29_2
                                try clear hcz30_0
                                try clear hcz30_1
                                try clear hcz30_2
                                try clear hfz13_0
                                try clear hfz13_1
                                try clear hfz13_2
                                try clear hfz15_0
                                try clear hfz15_1
                                try clear hfz15_2
                                try clear hfz17_0
                                try clear hfz17_1
                                try clear hfz17_2
                                try clear hfz18_0
                                try clear hfz18_1
                                try clear hfz18_2
                                try clear hfz24_0
                                try clear hfz24_1
                                try clear hfz24_2
                                try clear hfz26_0
                                try clear hfz26_1
                                try clear hfz26_2
                                try clear hfz29_0
                                try clear hfz29_1
                                try clear hfz29_2
                                try clear hfz30_0
                                try clear hfz30_1
                                try clear hfz30_2
                                try clear hx158_0
                                try clear hx158_1
                                try clear hx158_2
                                try clear p1
                                try clear p15
                                try clear p158
                                try clear p2
                                try clear p6
                                try clear q1
                                try clear q15
                                try clear q158
                                obtain ⟨x9_4, rfl, HA, HK4, HO_4, BK159, HB⟩ := hrel
                                cases gk with
                                | zero => exact absurd HA.out (by simp [incipitlaw17_AutoApart.l1])
                                | succ k4 =>
                                  have H := HA.out
                                  clear HA
                                  simp only [incipitlaw17_AutoApart.l1] at H
                                  by_cases c32 : x9_4 < ((a0.extract (((rd_T26 t155 x6_1).f0) : Int).toNat (((rd_T26 t155 x6_1).f1) : Int).toNat).size : Int)
                                  · rw [if_pos c32] at H
                                    have c32b0 : decide (x9_4 < ((a0.extract (((rd_T26 t155 x6_1).f0) : Int).toNat (((rd_T26 t155 x6_1).f1) : Int).toNat).size : Int)) = true := decide_eq_true c32
                                    have c32b0s := c32b0
                                    (try simp only [ByteArray.size_append, ByteArray.size_extract, Int.natCast_add] at c32b0s)
                                    (try have c32b0t := eq_true (of_decide_eq_true c32b0s))
                                    clear c32
                                    by_cases c33 : 0 ≤ x9_4
                                    · rw [if_pos c33] at H
                                      have c33b0 : decide (0 ≤ x9_4) = true := decide_eq_true c33
                                      clear c33
                                      by_cases c35 : (bt (a0.extract (((rd_T26 t155 x6_1).f0) : Int).toNat (((rd_T26 t155 x6_1).f1) : Int).toNat) x9_4) = 32
                                      · rw [if_pos c35] at H
                                        have c35b0 : ((bt (a0.extract (((rd_T26 t155 x6_1).f0) : Int).toNat (((rd_T26 t155 x6_1).f1) : Int).toNat) x9_4) == 32) = true := beq_iff_eq.mpr c35
                                        have c35b1 : ((bt (a0.extract (((rd_T26 t155 x6_1).f0) : Int).toNat (((rd_T26 t155 x6_1).f1) : Int).toNat) x9_4) != 32) = false := bne_eq_false_iff_eq.mpr c35
                                        clear c35
                                        obtain rfl := Option.some.inj H
                                        have p34 : 0 ≤ (x9_4 : Int) := of_decide_eq_true (by first | (with_reducible assumption) | assumption)
                                        have q34 : x9_4 < ((a0.extract (((rd_T26 t155 x6_1).f0) : Int).toNat (((rd_T26 t155 x6_1).f1) : Int).toNat).size : Int) := of_decide_eq_true (by first | (with_reducible assumption) | assumption)
                                        have hx34 := bt_at (a0.extract (((rd_T26 t155 x6_1).f0) : Int).toNat (((rd_T26 t155 x6_1).f1) : Int).toNat) x9_4
                                        replace p34 := eq_true p34
                                        replace q34 := eq_true q34
                                        go_wp2
                                        go_ret
                                        exact ⟨by first | rfl | (simp [errW_none, errW_some] <;> rfl) | (simp [*, errW_none, errW_some] <;> rfl), by repeat (first | (with_reducible first | exact HB.out | apply below_alloc | apply pw_below_drewN | apply below_drew1 | refine below_set ?_ GE159.out) | exact HB.out)⟩
                                      · rw [if_neg c35] at H
                                        have c35b0 : ((bt (a0.extract (((rd_T26 t155 x6_1).f0) : Int).toNat (((rd_T26 t155 x6_1).f1) : Int).toNat) x9_4) == 32) = false := beq_eq_false_iff_ne.mpr c35
                                        have c35b1 : ((bt (a0.extract (((rd_T26 t155 x6_1).f0) : Int).toNat (((rd_T26 t155 x6_1).f1) : Int).toNat) x9_4) != 32) = true := bne_iff_ne.mpr c35
                                        by_cases c37 : (bt (a0.extract (((rd_T26 t155 x6_1).f0) : Int).toNat (((rd_T26 t155 x6_1).f1) : Int).toNat) x9_4) = 9
                                        · rw [if_pos c37] at H
                                          have c37b0 : ((bt (a0.extract (((rd_T26 t155 x6_1).f0) : Int).toNat (((rd_T26 t155 x6_1).f1) : Int).toNat) x9_4) == 9) = true := beq_iff_eq.mpr c37
                                          have c37b1 : ((bt (a0.extract (((rd_T26 t155 x6_1).f0) : Int).toNat (((rd_T26 t155 x6_1).f1) : Int).toNat) x9_4) != 9) = false := bne_eq_false_iff_eq.mpr c37
                                          clear c37
                                          obtain rfl := Option.some.inj H
                                          have p34 : 0 ≤ (x9_4 : Int) := of_decide_eq_true (by first | (with_reducible assumption) | assumption)
                                          have q34 : x9_4 < ((a0.extract (((rd_T26 t155 x6_1).f0) : Int).toNat (((rd_T26 t155 x6_1).f1) : Int).toNat).size : Int) := of_decide_eq_true (by first | (with_reducible assumption) | assumption)
                                          have hx34 := bt_at (a0.extract (((rd_T26 t155 x6_1).f0) : Int).toNat (((rd_T26 t155 x6_1).f1) : Int).toNat) x9_4
                                          replace p34 := eq_true p34
                                          replace q34 := eq_true q34
                                          have p36 : 0 ≤ (x9_4 : Int) := of_decide_eq_true (by first | (with_reducible assumption) | assumption)
                                          have q36 : x9_4 < ((a0.extract (((rd_T26 t155 x6_1).f0) : Int).toNat (((rd_T26 t155 x6_1).f1) : Int).toNat).size : Int) := of_decide_eq_true (by first | (with_reducible assumption) | assumption)
                                          have hx36 := bt_at (a0.extract (((rd_T26 t155 x6_1).f0) : Int).toNat (((rd_T26 t155 x6_1).f1) : Int).toNat) x9_4
                                          replace p36 := eq_true p36
                                          replace q36 := eq_true q36
                                          go_wp2
                                          go_ret
                                          exact ⟨by first | rfl | (simp [errW_none, errW_some] <;> rfl) | (simp [*, errW_none, errW_some] <;> rfl), by repeat (first | (with_reducible first | exact HB.out | apply below_alloc | apply pw_below_drewN | apply below_drew1 | refine below_set ?_ GE159.out) | exact HB.out)⟩
                                        · rw [if_neg c37] at H
                                          have c37b0 : ((bt (a0.extract (((rd_T26 t155 x6_1).f0) : Int).toNat (((rd_T26 t155 x6_1).f1) : Int).toNat) x9_4) == 9) = false := beq_eq_false_iff_ne.mpr c37
                                          have c37b1 : ((bt (a0.extract (((rd_T26 t155 x6_1).f0) : Int).toNat (((rd_T26 t155 x6_1).f1) : Int).toNat) x9_4) != 9) = true := bne_iff_ne.mpr c37
                                          by_cases c39 : (bt (a0.extract (((rd_T26 t155 x6_1).f0) : Int).toNat (((rd_T26 t155 x6_1).f1) : Int).toNat) x9_4) = 10
                                          · rw [if_pos c39] at H
                                            have c39b0 : ((bt (a0.extract (((rd_T26 t155 x6_1).f0) : Int).toNat (((rd_T26 t155 x6_1).f1) : Int).toNat) x9_4) == 10) = true := beq_iff_eq.mpr c39
                                            have c39b1 : ((bt (a0.extract (((rd_T26 t155 x6_1).f0) : Int).toNat (((rd_T26 t155 x6_1).f1) : Int).toNat) x9_4) != 10) = false := bne_eq_false_iff_eq.mpr c39
                                            clear c39
                                            obtain rfl := Option.some.inj H
                                            have p34 : 0 ≤ (x9_4 : Int) := of_decide_eq_true (by first | (with_reducible assumption) | assumption)
                                            have q34 : x9_4 < ((a0.extract (((rd_T26 t155 x6_1).f0) : Int).toNat (((rd_T26 t155 x6_1).f1) : Int).toNat).size : Int) := of_decide_eq_true (by first | (with_reducible assumption) | assumption)
                                            have hx34 := bt_at (a0.extract (((rd_T26 t155 x6_1).f0) : Int).toNat (((rd_T26 t155 x6_1).f1) : Int).toNat) x9_4
                                            replace p34 := eq_true p34
                                            replace q34 := eq_true q34
                                            have p36 : 0 ≤ (x9_4 : Int) := of_decide_eq_true (by first | (with_reducible assumption) | assumption)
                                            have q36 : x9_4 < ((a0.extract (((rd_T26 t155 x6_1).f0) : Int).toNat (((rd_T26 t155 x6_1).f1) : Int).toNat).size : Int) := of_decide_eq_true (by first | (with_reducible assumption) | assumption)
                                            have hx36 := bt_at (a0.extract (((rd_T26 t155 x6_1).f0) : Int).toNat (((rd_T26 t155 x6_1).f1) : Int).toNat) x9_4
                                            replace p36 := eq_true p36
                                            replace q36 := eq_true q36
                                            have p38 : 0 ≤ (x9_4 : Int) := of_decide_eq_true (by first | (with_reducible assumption) | assumption)
                                            have q38 : x9_4 < ((a0.extract (((rd_T26 t155 x6_1).f0) : Int).toNat (((rd_T26 t155 x6_1).f1) : Int).toNat).size : Int) := of_decide_eq_true (by first | (with_reducible assumption) | assumption)
                                            have hx38 := bt_at (a0.extract (((rd_T26 t155 x6_1).f0) : Int).toNat (((rd_T26 t155 x6_1).f1) : Int).toNat) x9_4
                                            replace p38 := eq_true p38
                                            replace q38 := eq_true q38
                                            go_wp2
                                            go_ret
                                            exact ⟨by first | rfl | (simp [errW_none, errW_some] <;> rfl) | (simp [*, errW_none, errW_some] <;> rfl), by repeat (first | (with_reducible first | exact HB.out | apply below_alloc | apply pw_below_drewN | apply below_drew1 | refine below_set ?_ GE159.out) | exact HB.out)⟩
                                          · rw [if_neg c39] at H
                                            have c39b0 : ((bt (a0.extract (((rd_T26 t155 x6_1).f0) : Int).toNat (((rd_T26 t155 x6_1).f1) : Int).toNat) x9_4) == 10) = false := beq_eq_false_iff_ne.mpr c39
                                            have c39b1 : ((bt (a0.extract (((rd_T26 t155 x6_1).f0) : Int).toNat (((rd_T26 t155 x6_1).f1) : Int).toNat) x9_4) != 10) = true := bne_iff_ne.mpr c39
                                            by_cases c41 : (bt (a0.extract (((rd_T26 t155 x6_1).f0) : Int).toNat (((rd_T26 t155 x6_1).f1) : Int).toNat) x9_4) = 60
                                            · rw [if_pos c41] at H
                                              have c41b0 : ((bt (a0.extract (((rd_T26 t155 x6_1).f0) : Int).toNat (((rd_T26 t155 x6_1).f1) : Int).toNat) x9_4) == 60) = true := beq_iff_eq.mpr c41
                                              have c41b1 : ((bt (a0.extract (((rd_T26 t155 x6_1).f0) : Int).toNat (((rd_T26 t155 x6_1).f1) : Int).toNat) x9_4) != 60) = false := bne_eq_false_iff_eq.mpr c41
                                              clear c41
                                              obtain rfl := Option.some.inj H
                                              have p34 : 0 ≤ (x9_4 : Int) := of_decide_eq_true (by first | (with_reducible assumption) | assumption)
                                              have q34 : x9_4 < ((a0.extract (((rd_T26 t155 x6_1).f0) : Int).toNat (((rd_T26 t155 x6_1).f1) : Int).toNat).size : Int) := of_decide_eq_true (by first | (with_reducible assumption) | assumption)
                                              have hx34 := bt_at (a0.extract (((rd_T26 t155 x6_1).f0) : Int).toNat (((rd_T26 t155 x6_1).f1) : Int).toNat) x9_4
                                              replace p34 := eq_true p34
                                              replace q34 := eq_true q34
                                              have p36 : 0 ≤ (x9_4 : Int) := of_decide_eq_true (by first | (with_reducible assumption) | assumption)
                                              have q36 : x9_4 < ((a0.extract (((rd_T26 t155 x6_1).f0) : Int).toNat (((rd_T26 t155 x6_1).f1) : Int).toNat).size : Int) := of_decide_eq_true (by first | (with_reducible assumption) | assumption)
                                              have hx36 := bt_at (a0.extract (((rd_T26 t155 x6_1).f0) : Int).toNat (((rd_T26 t155 x6_1).f1) : Int).toNat) x9_4
                                              replace p36 := eq_true p36
                                              replace q36 := eq_true q36
                                              have p38 : 0 ≤ (x9_4 : Int) := of_decide_eq_true (by first | (with_reducible assumption) | assumption)
                                              have q38 : x9_4 < ((a0.extract (((rd_T26 t155 x6_1).f0) : Int).toNat (((rd_T26 t155 x6_1).f1) : Int).toNat).size : Int) := of_decide_eq_true (by first | (with_reducible assumption) | assumption)
                                              have hx38 := bt_at (a0.extract (((rd_T26 t155 x6_1).f0) : Int).toNat (((rd_T26 t155 x6_1).f1) : Int).toNat) x9_4
                                              replace p38 := eq_true p38
                                              replace q38 := eq_true q38
                                              have p40 : 0 ≤ (x9_4 : Int) := of_decide_eq_true (by first | (with_reducible assumption) | assumption)
                                              have q40 : x9_4 < ((a0.extract (((rd_T26 t155 x6_1).f0) : Int).toNat (((rd_T26 t155 x6_1).f1) : Int).toNat).size : Int) := of_decide_eq_true (by first | (with_reducible assumption) | assumption)
                                              have hx40 := bt_at (a0.extract (((rd_T26 t155 x6_1).f0) : Int).toNat (((rd_T26 t155 x6_1).f1) : Int).toNat) x9_4
                                              replace p40 := eq_true p40
                                              replace q40 := eq_true q40
                                              go_wp2
                                              go_ret
                                              exact ⟨by first | rfl | (simp [errW_none, errW_some] <;> rfl) | (simp [*, errW_none, errW_some] <;> rfl), by repeat (first | (with_reducible first | exact HB.out | apply below_alloc | apply pw_below_drewN | apply below_drew1 | refine below_set ?_ GE159.out) | exact HB.out)⟩
                                            · rw [if_neg c41] at H
                                              have c41b0 : ((bt (a0.extract (((rd_T26 t155 x6_1).f0) : Int).toNat (((rd_T26 t155 x6_1).f1) : Int).toNat) x9_4) == 60) = false := beq_eq_false_iff_ne.mpr c41
                                              have c41b1 : ((bt (a0.extract (((rd_T26 t155 x6_1).f0) : Int).toNat (((rd_T26 t155 x6_1).f1) : Int).toNat) x9_4) != 60) = true := bne_iff_ne.mpr c41
                                              have H' := Aside0.mk H
                                              clear H
                                              have p34 : 0 ≤ (x9_4 : Int) := of_decide_eq_true (by first | (with_reducible assumption) | assumption)
                                              have q34 : x9_4 < ((a0.extract (((rd_T26 t155 x6_1).f0) : Int).toNat (((rd_T26 t155 x6_1).f1) : Int).toNat).size : Int) := of_decide_eq_true (by first | (with_reducible assumption) | assumption)
                                              have hx34 := bt_at (a0.extract (((rd_T26 t155 x6_1).f0) : Int).toNat (((rd_T26 t155 x6_1).f1) : Int).toNat) x9_4
                                              replace p34 := eq_true p34
                                              replace q34 := eq_true q34
                                              have p36 : 0 ≤ (x9_4 : Int) := of_decide_eq_true (by first | (with_reducible assumption) | assumption)
                                              have q36 : x9_4 < ((a0.extract (((rd_T26 t155 x6_1).f0) : Int).toNat (((rd_T26 t155 x6_1).f1) : Int).toNat).size : Int) := of_decide_eq_true (by first | (with_reducible assumption) | assumption)
                                              have hx36 := bt_at (a0.extract (((rd_T26 t155 x6_1).f0) : Int).toNat (((rd_T26 t155 x6_1).f1) : Int).toNat) x9_4
                                              replace p36 := eq_true p36
                                              replace q36 := eq_true q36
                                              have p38 : 0 ≤ (x9_4 : Int) := of_decide_eq_true (by first | (with_reducible assumption) | assumption)
                                              have q38 : x9_4 < ((a0.extract (((rd_T26 t155 x6_1).f0) : Int).toNat (((rd_T26 t155 x6_1).f1) : Int).toNat).size : Int) := of_decide_eq_true (by first | (with_reducible assumption) | assumption)
                                              have hx38 := bt_at (a0.extract (((rd_T26 t155 x6_1).f0) : Int).toNat (((rd_T26 t155 x6_1).f1) : Int).toNat) x9_4
                                              replace p38 := eq_true p38
                                              replace q38 := eq_true q38
                                              have p40 : 0 ≤ (x9_4 : Int) := of_decide_eq_true (by first | (with_reducible assumption) | assumption)
                                              have q40 : x9_4 < ((a0.extract (((rd_T26 t155 x6_1).f0) : Int).toNat (((rd_T26 t155 x6_1).f1) : Int).toNat).size : Int) := of_decide_eq_true (by first | (with_reducible assumption) | assumption)
                                              have hx40 := bt_at (a0.extract (((rd_T26 t155 x6_1).f0) : Int).toNat (((rd_T26 t155 x6_1).f1) : Int).toNat) x9_4
                                              replace p40 := eq_true p40
                                              replace q40 := eq_true q40
                                              go_wp2
                                              go_roundg k4
                                              case measure => have := HK1.out; have := HJ9.out; have := HJ22.out; have := HK4.out; omega
                                              case rel => exact ⟨(wrap64 (x9_4 + 1)), (by first | rfl | (simp; done) | (simp [*]; done)), H', ⟨by have := HK1.out; have := HJ9.out; have := HJ22.out; have := HK4.out; omega⟩, ⟨by (with_reducible repeat (first | apply Kd.R_alloc | apply Kd.R_drewN | apply Kd.R_drew)); exact HO_4.out⟩, ⟨by (with_reducible repeat (first | refine blk_drewN ?_ _ | refine blk_drew ?_ | refine blk_alloc ?_ _)); exact BK159.out⟩, ⟨by repeat (first | (with_reducible first | exact HB.out | apply below_alloc | apply pw_below_drewN | apply below_drew1 | refine below_set ?_ GE159.out) | exact HB.out)⟩⟩
                                    · rw [if_neg c33] at H
                                      exact absurd H (by simp)
                                  · rw [if_neg c32] at H
                                    have c32b0 : decide (x9_4 < ((a0.extract (((rd_T26 t155 x6_1).f0) : Int).toNat (((rd_T26 t155 x6_1).f1) : Int).toNat).size : Int)) = false := decide_eq_false c32
                                    have c32b0s := c32b0
                                    (try simp only [ByteArray.size_append, ByteArray.size_extract, Int.natCast_add] at c32b0s)
                                    (try have c32b0t := eq_true (of_decide_eq_true c32b0s))
                                    clear c32
                                    by_cases c42 : ((rd_T26 t155 x6_1).f0) > 0
                                    · rw [if_pos c42] at H
                                      have c42b0 : decide (0 < ((rd_T26 t155 x6_1).f0)) = true := decide_eq_true c42
                                      clear c42
                                      obtain ⟨ji43, hji43⟩ : ∃ j_ : Int, (wrap64 (((rd_T26 t155 x6_1).f0) - 1)) = j_ := ⟨_, rfl⟩
                                      replace H : (if 0 ≤ (ji43) then (if (ji43) < (a0.size : Int) then (if (bt a0 (ji43)) = 32 then (incipitlaw17_AutoApart.l0 k4 a0 t154 t155 ((rd_T26 t155 x6_1).f1) (wrap64 (x6_1 + 1))) else (if (bt a0 (ji43)) = 9 then (incipitlaw17_AutoApart.l0 k4 a0 t154 t155 ((rd_T26 t155 x6_1).f1) (wrap64 (x6_1 + 1))) else (if (bt a0 (ji43)) = 10 then (incipitlaw17_AutoApart.l0 k4 a0 t154 t155 ((rd_T26 t155 x6_1).f1) (wrap64 (x6_1 + 1))) else (if (bt a0 (ji43)) = 42 then (incipitlaw17_AutoApart.l0 k4 a0 t154 t155 ((rd_T26 t155 x6_1).f1) (wrap64 (x6_1 + 1))) else (if (bt a0 (ji43)) = 95 then (incipitlaw17_AutoApart.l0 k4 a0 t154 t155 ((rd_T26 t155 x6_1).f1) (wrap64 (x6_1 + 1))) else (if (bt a0 (ji43)) = 126 then (incipitlaw17_AutoApart.l0 k4 a0 t154 t155 ((rd_T26 t155 x6_1).f1) (wrap64 (x6_1 + 1))) else (if (bt a0 (ji43)) = 40 then (incipitlaw17_AutoApart.l0 k4 a0 t154 t155 ((rd_T26 t155 x6_1).f1) (wrap64 (x6_1 + 1))) else (some false)))))))) else (none)) else (none)) = some r := by first | (rw [hji43] at H; exact H) | (simp only [hji43] at H ⊢; exact H)
                                      have hji43w : (IntKind.i64.wrap (((rd_T26 t155 x6_1).f0) - 1)) = ji43 := (i64_w _).trans hji43
                                      by_cases c44 : 0 ≤ (ji43)
                                      · rw [if_pos c44] at H
                                        have c44b0 : decide (0 ≤ (ji43)) = true := decide_eq_true c44
                                        clear c44
                                        by_cases c45 : (ji43) < (a0.size : Int)
                                        · rw [if_pos c45] at H
                                          have c45b0 : decide ((ji43) < (a0.size : Int)) = true := decide_eq_true c45
                                          clear c45
                                          by_cases c47 : (bt a0 (ji43)) = 32
                                          · rw [if_pos c47] at H
                                            have c47b0 : ((bt a0 (ji43)) == 32) = true := beq_iff_eq.mpr c47
                                            have c47b1 : ((bt a0 (ji43)) != 32) = false := bne_eq_false_iff_eq.mpr c47
                                            clear c47
                                            have H' := Aside0.mk H
                                            clear H
                                            have hcz48_0 : wr.cell? ⟨gb159, 0, none⟩ = some (.int .i64 ((rd_T26 t155 x6_1).f0)) := (blk_cell BK159.out 0).trans rfl
                                            have hcz48_1 : wr.cell? ⟨gb159, 1, none⟩ = some (.int .i64 ((rd_T26 t155 x6_1).f1)) := (blk_cell BK159.out 1).trans rfl
                                            have hcz48_2 : wr.cell? ⟨gb159, 2, none⟩ = some (.string ((rd_T26 t155 x6_1).f2)) := (blk_cell BK159.out 2).trans rfl
                                            have hfz48_0 := blk_frozen BK159.out 0
                                            have hfz48_1 := blk_frozen BK159.out 1
                                            have hfz48_2 := blk_frozen BK159.out 2
                                            have p46 : 0 ≤ ((ji43) : Int) := of_decide_eq_true (by first | (with_reducible assumption) | assumption)
                                            have q46 : (ji43) < (a0.size : Int) := of_decide_eq_true (by first | (with_reducible assumption) | assumption)
                                            have hx46 := bt_at a0 (ji43)
                                            replace p46 := eq_true p46
                                            replace q46 := eq_true q46
                                            go_wp2
                                            go_roundg k4
                                            case measure => have := HK1.out; have := HJ9.out; have := HJ22.out; have := HK4.out; omega
                                            case rel => exact ⟨(((rd_T26 t155 x6_1).f1)), (wrap64 (x6_1 + 1)), (by first | rfl | (simp; done) | (simp [*]; done)), (by first | rfl | (simp; done) | (simp [*]; done)), H', ⟨by have := HK1.out; have := HJ9.out; have := HJ22.out; have := HK4.out; omega⟩, ⟨by (with_reducible repeat (first | apply Kd.R_alloc | apply Kd.R_drewN | apply Kd.R_drew)); exact Kd.R_mono HO_4.out (fun _ hk => trivial)⟩, ⟨by repeat (first | (with_reducible first | exact HB.out | apply below_alloc | apply pw_below_drewN | apply below_drew1 | refine below_set ?_ GE159.out) | exact HB.out)⟩⟩
                                          · rw [if_neg c47] at H
                                            have c47b0 : ((bt a0 (ji43)) == 32) = false := beq_eq_false_iff_ne.mpr c47
                                            have c47b1 : ((bt a0 (ji43)) != 32) = true := bne_iff_ne.mpr c47
                                            by_cases c49 : (bt a0 (ji43)) = 9
                                            · rw [if_pos c49] at H
                                              have c49b0 : ((bt a0 (ji43)) == 9) = true := beq_iff_eq.mpr c49
                                              have c49b1 : ((bt a0 (ji43)) != 9) = false := bne_eq_false_iff_eq.mpr c49
                                              clear c49
                                              have H' := Aside0.mk H
                                              clear H
                                              have hcz50_0 : wr.cell? ⟨gb159, 0, none⟩ = some (.int .i64 ((rd_T26 t155 x6_1).f0)) := (blk_cell BK159.out 0).trans rfl
                                              have hcz50_1 : wr.cell? ⟨gb159, 1, none⟩ = some (.int .i64 ((rd_T26 t155 x6_1).f1)) := (blk_cell BK159.out 1).trans rfl
                                              have hcz50_2 : wr.cell? ⟨gb159, 2, none⟩ = some (.string ((rd_T26 t155 x6_1).f2)) := (blk_cell BK159.out 2).trans rfl
                                              have hfz50_0 := blk_frozen BK159.out 0
                                              have hfz50_1 := blk_frozen BK159.out 1
                                              have hfz50_2 := blk_frozen BK159.out 2
                                              have p46 : 0 ≤ ((ji43) : Int) := of_decide_eq_true (by first | (with_reducible assumption) | assumption)
                                              have q46 : (ji43) < (a0.size : Int) := of_decide_eq_true (by first | (with_reducible assumption) | assumption)
                                              have hx46 := bt_at a0 (ji43)
                                              replace p46 := eq_true p46
                                              replace q46 := eq_true q46
                                              go_wp2
                                              go_roundg k4
                                              case measure => have := HK1.out; have := HJ9.out; have := HJ22.out; have := HK4.out; omega
                                              case rel => exact ⟨(((rd_T26 t155 x6_1).f1)), (wrap64 (x6_1 + 1)), (by first | rfl | (simp; done) | (simp [*]; done)), (by first | rfl | (simp; done) | (simp [*]; done)), H', ⟨by have := HK1.out; have := HJ9.out; have := HJ22.out; have := HK4.out; omega⟩, ⟨by (with_reducible repeat (first | apply Kd.R_alloc | apply Kd.R_drewN | apply Kd.R_drew)); exact Kd.R_mono HO_4.out (fun _ hk => trivial)⟩, ⟨by repeat (first | (with_reducible first | exact HB.out | apply below_alloc | apply pw_below_drewN | apply below_drew1 | refine below_set ?_ GE159.out) | exact HB.out)⟩⟩
                                            · rw [if_neg c49] at H
                                              have c49b0 : ((bt a0 (ji43)) == 9) = false := beq_eq_false_iff_ne.mpr c49
                                              have c49b1 : ((bt a0 (ji43)) != 9) = true := bne_iff_ne.mpr c49
                                              by_cases c51 : (bt a0 (ji43)) = 10
                                              · rw [if_pos c51] at H
                                                have c51b0 : ((bt a0 (ji43)) == 10) = true := beq_iff_eq.mpr c51
                                                have c51b1 : ((bt a0 (ji43)) != 10) = false := bne_eq_false_iff_eq.mpr c51
                                                clear c51
                                                have H' := Aside0.mk H
                                                clear H
                                                have hcz52_0 : wr.cell? ⟨gb159, 0, none⟩ = some (.int .i64 ((rd_T26 t155 x6_1).f0)) := (blk_cell BK159.out 0).trans rfl
                                                have hcz52_1 : wr.cell? ⟨gb159, 1, none⟩ = some (.int .i64 ((rd_T26 t155 x6_1).f1)) := (blk_cell BK159.out 1).trans rfl
                                                have hcz52_2 : wr.cell? ⟨gb159, 2, none⟩ = some (.string ((rd_T26 t155 x6_1).f2)) := (blk_cell BK159.out 2).trans rfl
                                                have hfz52_0 := blk_frozen BK159.out 0
                                                have hfz52_1 := blk_frozen BK159.out 1
                                                have hfz52_2 := blk_frozen BK159.out 2
                                                have p46 : 0 ≤ ((ji43) : Int) := of_decide_eq_true (by first | (with_reducible assumption) | assumption)
                                                have q46 : (ji43) < (a0.size : Int) := of_decide_eq_true (by first | (with_reducible assumption) | assumption)
                                                have hx46 := bt_at a0 (ji43)
                                                replace p46 := eq_true p46
                                                replace q46 := eq_true q46
                                                go_wp2
                                                go_roundg k4
                                                case measure => have := HK1.out; have := HJ9.out; have := HJ22.out; have := HK4.out; omega
                                                case rel => exact ⟨(((rd_T26 t155 x6_1).f1)), (wrap64 (x6_1 + 1)), (by first | rfl | (simp; done) | (simp [*]; done)), (by first | rfl | (simp; done) | (simp [*]; done)), H', ⟨by have := HK1.out; have := HJ9.out; have := HJ22.out; have := HK4.out; omega⟩, ⟨by (with_reducible repeat (first | apply Kd.R_alloc | apply Kd.R_drewN | apply Kd.R_drew)); exact Kd.R_mono HO_4.out (fun _ hk => trivial)⟩, ⟨by repeat (first | (with_reducible first | exact HB.out | apply below_alloc | apply pw_below_drewN | apply below_drew1 | refine below_set ?_ GE159.out) | exact HB.out)⟩⟩
                                              · rw [if_neg c51] at H
                                                have c51b0 : ((bt a0 (ji43)) == 10) = false := beq_eq_false_iff_ne.mpr c51
                                                have c51b1 : ((bt a0 (ji43)) != 10) = true := bne_iff_ne.mpr c51
                                                by_cases c53 : (bt a0 (ji43)) = 42
                                                · rw [if_pos c53] at H
                                                  have c53b0 : ((bt a0 (ji43)) == 42) = true := beq_iff_eq.mpr c53
                                                  have c53b1 : ((bt a0 (ji43)) != 42) = false := bne_eq_false_iff_eq.mpr c53
                                                  clear c53
                                                  have H' := Aside0.mk H
                                                  clear H
                                                  have hcz54_0 : wr.cell? ⟨gb159, 0, none⟩ = some (.int .i64 ((rd_T26 t155 x6_1).f0)) := (blk_cell BK159.out 0).trans rfl
                                                  have hcz54_1 : wr.cell? ⟨gb159, 1, none⟩ = some (.int .i64 ((rd_T26 t155 x6_1).f1)) := (blk_cell BK159.out 1).trans rfl
                                                  have hcz54_2 : wr.cell? ⟨gb159, 2, none⟩ = some (.string ((rd_T26 t155 x6_1).f2)) := (blk_cell BK159.out 2).trans rfl
                                                  have hfz54_0 := blk_frozen BK159.out 0
                                                  have hfz54_1 := blk_frozen BK159.out 1
                                                  have hfz54_2 := blk_frozen BK159.out 2
                                                  have p46 : 0 ≤ ((ji43) : Int) := of_decide_eq_true (by first | (with_reducible assumption) | assumption)
                                                  have q46 : (ji43) < (a0.size : Int) := of_decide_eq_true (by first | (with_reducible assumption) | assumption)
                                                  have hx46 := bt_at a0 (ji43)
                                                  replace p46 := eq_true p46
                                                  replace q46 := eq_true q46
                                                  go_wp2
                                                  go_roundg k4
                                                  case measure => have := HK1.out; have := HJ9.out; have := HJ22.out; have := HK4.out; omega
                                                  case rel => exact ⟨(((rd_T26 t155 x6_1).f1)), (wrap64 (x6_1 + 1)), (by first | rfl | (simp; done) | (simp [*]; done)), (by first | rfl | (simp; done) | (simp [*]; done)), H', ⟨by have := HK1.out; have := HJ9.out; have := HJ22.out; have := HK4.out; omega⟩, ⟨by (with_reducible repeat (first | apply Kd.R_alloc | apply Kd.R_drewN | apply Kd.R_drew)); exact Kd.R_mono HO_4.out (fun _ hk => trivial)⟩, ⟨by repeat (first | (with_reducible first | exact HB.out | apply below_alloc | apply pw_below_drewN | apply below_drew1 | refine below_set ?_ GE159.out) | exact HB.out)⟩⟩
                                                · rw [if_neg c53] at H
                                                  have c53b0 : ((bt a0 (ji43)) == 42) = false := beq_eq_false_iff_ne.mpr c53
                                                  have c53b1 : ((bt a0 (ji43)) != 42) = true := bne_iff_ne.mpr c53
                                                  by_cases c55 : (bt a0 (ji43)) = 95
                                                  · rw [if_pos c55] at H
                                                    have c55b0 : ((bt a0 (ji43)) == 95) = true := beq_iff_eq.mpr c55
                                                    have c55b1 : ((bt a0 (ji43)) != 95) = false := bne_eq_false_iff_eq.mpr c55
                                                    clear c55
                                                    have H' := Aside0.mk H
                                                    clear H
                                                    have hcz56_0 : wr.cell? ⟨gb159, 0, none⟩ = some (.int .i64 ((rd_T26 t155 x6_1).f0)) := (blk_cell BK159.out 0).trans rfl
                                                    have hcz56_1 : wr.cell? ⟨gb159, 1, none⟩ = some (.int .i64 ((rd_T26 t155 x6_1).f1)) := (blk_cell BK159.out 1).trans rfl
                                                    have hcz56_2 : wr.cell? ⟨gb159, 2, none⟩ = some (.string ((rd_T26 t155 x6_1).f2)) := (blk_cell BK159.out 2).trans rfl
                                                    have hfz56_0 := blk_frozen BK159.out 0
                                                    have hfz56_1 := blk_frozen BK159.out 1
                                                    have hfz56_2 := blk_frozen BK159.out 2
                                                    have p46 : 0 ≤ ((ji43) : Int) := of_decide_eq_true (by first | (with_reducible assumption) | assumption)
                                                    have q46 : (ji43) < (a0.size : Int) := of_decide_eq_true (by first | (with_reducible assumption) | assumption)
                                                    have hx46 := bt_at a0 (ji43)
                                                    replace p46 := eq_true p46
                                                    replace q46 := eq_true q46
                                                    go_wp2
                                                    go_roundg k4
                                                    case measure => have := HK1.out; have := HJ9.out; have := HJ22.out; have := HK4.out; omega
                                                    case rel => exact ⟨(((rd_T26 t155 x6_1).f1)), (wrap64 (x6_1 + 1)), (by first | rfl | (simp; done) | (simp [*]; done)), (by first | rfl | (simp; done) | (simp [*]; done)), H', ⟨by have := HK1.out; have := HJ9.out; have := HJ22.out; have := HK4.out; omega⟩, ⟨by (with_reducible repeat (first | apply Kd.R_alloc | apply Kd.R_drewN | apply Kd.R_drew)); exact Kd.R_mono HO_4.out (fun _ hk => trivial)⟩, ⟨by repeat (first | (with_reducible first | exact HB.out | apply below_alloc | apply pw_below_drewN | apply below_drew1 | refine below_set ?_ GE159.out) | exact HB.out)⟩⟩
                                                  · rw [if_neg c55] at H
                                                    have c55b0 : ((bt a0 (ji43)) == 95) = false := beq_eq_false_iff_ne.mpr c55
                                                    have c55b1 : ((bt a0 (ji43)) != 95) = true := bne_iff_ne.mpr c55
                                                    by_cases c57 : (bt a0 (ji43)) = 126
                                                    · rw [if_pos c57] at H
                                                      have c57b0 : ((bt a0 (ji43)) == 126) = true := beq_iff_eq.mpr c57
                                                      have c57b1 : ((bt a0 (ji43)) != 126) = false := bne_eq_false_iff_eq.mpr c57
                                                      clear c57
                                                      have H' := Aside0.mk H
                                                      clear H
                                                      have hcz58_0 : wr.cell? ⟨gb159, 0, none⟩ = some (.int .i64 ((rd_T26 t155 x6_1).f0)) := (blk_cell BK159.out 0).trans rfl
                                                      have hcz58_1 : wr.cell? ⟨gb159, 1, none⟩ = some (.int .i64 ((rd_T26 t155 x6_1).f1)) := (blk_cell BK159.out 1).trans rfl
                                                      have hcz58_2 : wr.cell? ⟨gb159, 2, none⟩ = some (.string ((rd_T26 t155 x6_1).f2)) := (blk_cell BK159.out 2).trans rfl
                                                      have hfz58_0 := blk_frozen BK159.out 0
                                                      have hfz58_1 := blk_frozen BK159.out 1
                                                      have hfz58_2 := blk_frozen BK159.out 2
                                                      have p46 : 0 ≤ ((ji43) : Int) := of_decide_eq_true (by first | (with_reducible assumption) | assumption)
                                                      have q46 : (ji43) < (a0.size : Int) := of_decide_eq_true (by first | (with_reducible assumption) | assumption)
                                                      have hx46 := bt_at a0 (ji43)
                                                      replace p46 := eq_true p46
                                                      replace q46 := eq_true q46
                                                      go_wp2
                                                      go_roundg k4
                                                      case measure => have := HK1.out; have := HJ9.out; have := HJ22.out; have := HK4.out; omega
                                                      case rel => exact ⟨(((rd_T26 t155 x6_1).f1)), (wrap64 (x6_1 + 1)), (by first | rfl | (simp; done) | (simp [*]; done)), (by first | rfl | (simp; done) | (simp [*]; done)), H', ⟨by have := HK1.out; have := HJ9.out; have := HJ22.out; have := HK4.out; omega⟩, ⟨by (with_reducible repeat (first | apply Kd.R_alloc | apply Kd.R_drewN | apply Kd.R_drew)); exact Kd.R_mono HO_4.out (fun _ hk => trivial)⟩, ⟨by repeat (first | (with_reducible first | exact HB.out | apply below_alloc | apply pw_below_drewN | apply below_drew1 | refine below_set ?_ GE159.out) | exact HB.out)⟩⟩
                                                    · rw [if_neg c57] at H
                                                      have c57b0 : ((bt a0 (ji43)) == 126) = false := beq_eq_false_iff_ne.mpr c57
                                                      have c57b1 : ((bt a0 (ji43)) != 126) = true := bne_iff_ne.mpr c57
                                                      by_cases c59 : (bt a0 (ji43)) = 40
                                                      · rw [if_pos c59] at H
                                                        have c59b0 : ((bt a0 (ji43)) == 40) = true := beq_iff_eq.mpr c59
                                                        have c59b1 : ((bt a0 (ji43)) != 40) = false := bne_eq_false_iff_eq.mpr c59
                                                        clear c59
                                                        have H' := Aside0.mk H
                                                        clear H
                                                        have hcz60_0 : wr.cell? ⟨gb159, 0, none⟩ = some (.int .i64 ((rd_T26 t155 x6_1).f0)) := (blk_cell BK159.out 0).trans rfl
                                                        have hcz60_1 : wr.cell? ⟨gb159, 1, none⟩ = some (.int .i64 ((rd_T26 t155 x6_1).f1)) := (blk_cell BK159.out 1).trans rfl
                                                        have hcz60_2 : wr.cell? ⟨gb159, 2, none⟩ = some (.string ((rd_T26 t155 x6_1).f2)) := (blk_cell BK159.out 2).trans rfl
                                                        have hfz60_0 := blk_frozen BK159.out 0
                                                        have hfz60_1 := blk_frozen BK159.out 1
                                                        have hfz60_2 := blk_frozen BK159.out 2
                                                        have p46 : 0 ≤ ((ji43) : Int) := of_decide_eq_true (by first | (with_reducible assumption) | assumption)
                                                        have q46 : (ji43) < (a0.size : Int) := of_decide_eq_true (by first | (with_reducible assumption) | assumption)
                                                        have hx46 := bt_at a0 (ji43)
                                                        replace p46 := eq_true p46
                                                        replace q46 := eq_true q46
                                                        go_wp2
                                                        go_roundg k4
                                                        case measure => have := HK1.out; have := HJ9.out; have := HJ22.out; have := HK4.out; omega
                                                        case rel => exact ⟨(((rd_T26 t155 x6_1).f1)), (wrap64 (x6_1 + 1)), (by first | rfl | (simp; done) | (simp [*]; done)), (by first | rfl | (simp; done) | (simp [*]; done)), H', ⟨by have := HK1.out; have := HJ9.out; have := HJ22.out; have := HK4.out; omega⟩, ⟨by (with_reducible repeat (first | apply Kd.R_alloc | apply Kd.R_drewN | apply Kd.R_drew)); exact Kd.R_mono HO_4.out (fun _ hk => trivial)⟩, ⟨by repeat (first | (with_reducible first | exact HB.out | apply below_alloc | apply pw_below_drewN | apply below_drew1 | refine below_set ?_ GE159.out) | exact HB.out)⟩⟩
                                                      · rw [if_neg c59] at H
                                                        have c59b0 : ((bt a0 (ji43)) == 40) = false := beq_eq_false_iff_ne.mpr c59
                                                        have c59b1 : ((bt a0 (ji43)) != 40) = true := bne_iff_ne.mpr c59
                                                        obtain rfl := Option.some.inj H
                                                        have hcz61_0 : wr.cell? ⟨gb159, 0, none⟩ = some (.int .i64 ((rd_T26 t155 x6_1).f0)) := (blk_cell BK159.out 0).trans rfl
                                                        have hcz61_1 : wr.cell? ⟨gb159, 1, none⟩ = some (.int .i64 ((rd_T26 t155 x6_1).f1)) := (blk_cell BK159.out 1).trans rfl
                                                        have hcz61_2 : wr.cell? ⟨gb159, 2, none⟩ = some (.string ((rd_T26 t155 x6_1).f2)) := (blk_cell BK159.out 2).trans rfl
                                                        have hfz61_0 := blk_frozen BK159.out 0
                                                        have hfz61_1 := blk_frozen BK159.out 1
                                                        have hfz61_2 := blk_frozen BK159.out 2
                                                        have p46 : 0 ≤ ((ji43) : Int) := of_decide_eq_true (by first | (with_reducible assumption) | assumption)
                                                        have q46 : (ji43) < (a0.size : Int) := of_decide_eq_true (by first | (with_reducible assumption) | assumption)
                                                        have hx46 := bt_at a0 (ji43)
                                                        replace p46 := eq_true p46
                                                        replace q46 := eq_true q46
                                                        go_wp2
                                                        go_ret
                                                        exact ⟨by first | rfl | (simp [errW_none, errW_some] <;> rfl) | (simp only [← hji43]; first | rfl | (simp [errW_none, errW_some] <;> rfl)) | (simp [*, errW_none, errW_some] <;> rfl), by repeat (first | (with_reducible first | exact HB.out | apply below_alloc | apply pw_below_drewN | apply below_drew1 | refine below_set ?_ GE159.out) | exact HB.out)⟩
                                        · rw [if_neg c45] at H
                                          exact absurd H (by simp)
                                      · rw [if_neg c44] at H
                                        exact absurd H (by simp)
                                    · rw [if_neg c42] at H
                                      have c42b0 : decide (0 < ((rd_T26 t155 x6_1).f0)) = false := decide_eq_false c42
                                      clear c42
                                      have H' := Aside0.mk H
                                      clear H
                                      have hcz62_0 : wr.cell? ⟨gb159, 0, none⟩ = some (.int .i64 ((rd_T26 t155 x6_1).f0)) := (blk_cell BK159.out 0).trans rfl
                                      have hcz62_1 : wr.cell? ⟨gb159, 1, none⟩ = some (.int .i64 ((rd_T26 t155 x6_1).f1)) := (blk_cell BK159.out 1).trans rfl
                                      have hcz62_2 : wr.cell? ⟨gb159, 2, none⟩ = some (.string ((rd_T26 t155 x6_1).f2)) := (blk_cell BK159.out 2).trans rfl
                                      have hfz62_0 := blk_frozen BK159.out 0
                                      have hfz62_1 := blk_frozen BK159.out 1
                                      have hfz62_2 := blk_frozen BK159.out 2
                                      go_wp2
                                      go_roundg k4
                                      case measure => have := HK1.out; have := HJ9.out; have := HJ22.out; have := HK4.out; omega
                                      case rel => exact ⟨(((rd_T26 t155 x6_1).f1)), (wrap64 (x6_1 + 1)), (by first | rfl | (simp; done) | (simp [*]; done)), (by first | rfl | (simp; done) | (simp [*]; done)), H', ⟨by have := HK1.out; have := HJ9.out; have := HJ22.out; have := HK4.out; omega⟩, ⟨by (with_reducible repeat (first | apply Kd.R_alloc | apply Kd.R_drewN | apply Kd.R_drew)); exact Kd.R_mono HO_4.out (fun _ hk => trivial)⟩, ⟨by repeat (first | (with_reducible first | exact HB.out | apply below_alloc | apply pw_below_drewN | apply below_drew1 | refine below_set ?_ GE159.out) | exact HB.out)⟩⟩
                      · rw [if_neg c22] at H
                        exact absurd H (by simp)
                    · rw [if_neg c21] at H
                      exact absurd H (by simp)
                  · rw [if_neg c20] at H
                    exact absurd H (by simp)
          · rw [if_neg c9] at H
            exact absurd H (by simp)
        · rw [if_neg c8] at H
          have c8b0 : decide (x6_1 < (t155.length : Int)) = false := decide_eq_false c8
          clear c8
          obtain rfl := Option.some.inj H
          obtain ⟨Ao63, co63, eo63⟩ := Kd.R_slice HO_4.out
          subst eo63
          go_wp2
          go_ret
          exact ⟨by first | rfl | (simp [errW_none, errW_some] <;> rfl) | (simp [*, errW_none, errW_some] <;> rfl), by repeat (first | (with_reducible first | exact HB.out | apply below_alloc | apply pw_below_drewN | apply below_drew1) | exact HB.out)⟩

end Go.Proofs.YtddmddlaamcpiaaDoor.PA
