/-
  The law TableNodes holds: for every input it answers true, its arguments read behind the call as before. Conditions: the listed package-level variables as the program's text lays them (tied by the card).
-/
import Derived.Test.YthbadcdiagcfkaaDoorSTableNodes1
import Derived.Test.YthbadcdiagcfkaaDoorSTableNodes2
import Derived.Test.YthbadcdiagcfkaaDoorWLast
import Derived.Test.YthbadcdiagcfkaaDoorWMore
import Derived.Lib.Builder
import Derived.WalkKit
set_option linter.unusedVariables false
namespace Go.Proofs.YthbadcdiagcfkaaDoor.PA
open Go.RowKit Go.Proofs.YthbadcdiagcfkaaDoorW.PrintWords Go.Proofs.YthbadcdiagcfkaaDoorW.PrintLast Go.Proofs.YthbadcdiagcfkaaDoorW.PrintMore
attribute [local go_sem] max2_int min2_int max_two min_two max_three min_three max_four min_four   -- for this text's walks alone
set_option linter.unusedVariables false
set_option linter.unusedSimpArgs false

/-! ### incipitref06_Same: function 19 -/
mutual
def incipitref06_Same.j0 : Nat → Bool → Int → ByteArray → ByteArray → Int → Int → Bool → List (S40) → Int → ByteArray → ByteArray → Int → Int → Bool → List (S40) → Option (Bool)
  | 0, _, _, _, _, _, _, _, _, _, _, _, _, _, _, _ => none
  | k + 1, x18, x309000, x309001, x309002, x309003, x309004, x309005, x309006, x310000, x310001, x310002, x310003, x310004, x310005, x310006 => if x18 = true then (some false) else (incipitref06_Same.l0 k 0 x309000 x309001 x309002 x309003 x309004 x309005 x309006 x310000 x310001 x310002 x310003 x310004 x310005 x310006)
def incipitref06_Same.l0 : Nat → Int → Int → ByteArray → ByteArray → Int → Int → Bool → List (S40) → Int → ByteArray → ByteArray → Int → Int → Bool → List (S40) → Option (Bool)
  | 0, _, _, _, _, _, _, _, _, _, _, _, _, _, _, _ => none
  | k + 1, x5, x309000, x309001, x309002, x309003, x309004, x309005, x309006, x310000, x310001, x310002, x310003, x310004, x310005, x310006 => if x5 < (x309006.length : Int) then (if 0 ≤ x5 then (if x5 < (x310006.length : Int) then ((incipitref06_Same.f k ((rd_T40 x309006 x5).f0) ((rd_T40 x309006 x5).f1) ((rd_T40 x309006 x5).f2) ((rd_T40 x309006 x5).f3) ((rd_T40 x309006 x5).f4) ((rd_T40 x309006 x5).f5) ((rd_T40 x309006 x5).f6) ((rd_T40 x310006 x5).f0) ((rd_T40 x310006 x5).f1) ((rd_T40 x310006 x5).f2) ((rd_T40 x310006 x5).f3) ((rd_T40 x310006 x5).f4) ((rd_T40 x310006 x5).f5) ((rd_T40 x310006 x5).f6)).bind fun t313 => (if t313 = true then (incipitref06_Same.l0 k (wrap64 (x5 + 1)) x309000 x309001 x309002 x309003 x309004 x309005 x309006 x310000 x310001 x310002 x310003 x310004 x310005 x310006) else (some false))) else (none)) else (none)) else (some true)
def incipitref06_Same.f : Nat → Int → ByteArray → ByteArray → Int → Int → Bool → List (S40) → Int → ByteArray → ByteArray → Int → Int → Bool → List (S40) → Option (Bool)
  | 0, _, _, _, _, _, _, _, _, _, _, _, _, _, _ => none
  | k + 1, a0_0, a0_1, a0_2, a0_3, a0_4, a0_5, l0_6, a1_0, a1_1, a1_2, a1_3, a1_4, a1_5, l1_6 => (incipitref06_Own.f a0_0 a0_1 a0_2 a0_3 a0_4 a0_5 l0_6 a1_0 a1_1 a1_2 a1_3 a1_4 a1_5 l1_6).bind fun t310 => (if t310 = true then (incipitref06_Same.j0 k ((l0_6.length : Int) != (l1_6.length : Int)) a0_0 a0_1 a0_2 a0_3 a0_4 a0_5 l0_6 a1_0 a1_1 a1_2 a1_3 a1_4 a1_5 l1_6) else (incipitref06_Same.j0 k true a0_0 a0_1 a0_2 a0_3 a0_4 a0_5 l0_6 a1_0 a1_1 a1_2 a1_3 a1_4 a1_5 l1_6))
end
def incipitref06_Same.T6 : Bool × List (List Nat × List Nat) := (true, [([], []), ([0], [0]), ([], []), ([1, 2], [1, 2]), ([3], [3]), ([], []), ([5], [5]), ([], []), ([6, 7], [6, 7]), ([8], [8]), ([4, 9], [4, 9]), ([10], [10])])
def incipitref06_Same.B6 : List Nat := [0, 1, 0, 7, 15, 0, 32, 0, 224, 480, 1023, 2047]
theorem incipitref06_Same.tab6 : rtab .any (opsOf Tryd.f19 6) = incipitref06_Same.T6 := by kernel_rfl
theorem incipitref06_Same.bits6 : waitsOk incipitref06_Same.T6.2 incipitref06_Same.B6 = true := by kernel_rfl
set_option maxHeartbeats 8000000 in
set_option maxRecDepth 100000 in
theorem incipitref06_Same.calls (k : Nat) : ∀ (a0_0 : Int) (a0_1 : ByteArray) (a0_2 : ByteArray) (a0_3 : Int) (a0_4 : Int) (a0_5 : Bool) (A0_6 : Option Addr) (c0_6 : Nat) (l0_6 : List (S40)) (a1_0 : Int) (a1_1 : ByteArray) (a1_2 : ByteArray) (a1_3 : Int) (a1_4 : Int) (a1_5 : Bool) (A1_6 : Option Addr) (c1_6 : Nat) (l1_6 : List (S40)) (r : Bool) (w : World) (hr0_6 : Kd.C k40 w A0_6 l0_6.length l0_6) (hc0_6 : l0_6.length ≤ c0_6) (hr1_6 : Kd.C k40 w A1_6 l1_6.length l1_6) (hc1_6 : l1_6.length ≤ c1_6) (h : incipitref06_Same.f k a0_0 a0_1 a0_2 a0_3 a0_4 a0_5 l0_6 a1_0 a1_1 a1_2 a1_3 a1_4 a1_5 l1_6 = some r),
    Calls Tryd.prog 19 #[.agg #[.int .i64 a0_0, .string a0_1, .string a0_2, .int .i64 a0_3, .int .i64 a0_4, .bool a0_5, .slice A0_6 l0_6.length c0_6], .agg #[.int .i64 a1_0, .string a1_1, .string a1_2, .int .i64 a1_3, .int .i64 a1_4, .bool a1_5, .slice A1_6 l1_6.length c1_6]] w fun e w' => e = .returned (.bool r) ∧ Below w.heap.size w w' := by
  induction k using Nat.strongRecOn with
  | _ k ih =>
  intro a0_0 a0_1 a0_2 a0_3 a0_4 a0_5 A0_6 c0_6 l0_6 a1_0 a1_1 a1_2 a1_3 a1_4 a1_5 A1_6 c1_6 l1_6 r w hr0_6 hc0_6 hr1_6 hc1_6 h
  cases k with
  | zero => exact absurd h (by simp [incipitref06_Same.f])
  | succ k =>
  simp only [incipitref06_Same.f] at h
  have hu40 := Tryd.underlying40
  have HR0_6 := Aside0.mk hr0_6
  have HC0_6 := Aside0.mk hc0_6
  clear hr0_6 hc0_6
  have HR1_6 := Aside0.mk hr1_6
  have HC1_6 := Aside0.mk hc1_6
  clear hr1_6 hc1_6
  have HB := Aside0.mk (Below.refl w.heap.size w)
  have H : ((incipitref06_Own.f a0_0 a0_1 a0_2 a0_3 a0_4 a0_5 l0_6 a1_0 a1_1 a1_2 a1_3 a1_4 a1_5 l1_6).bind fun t310 => (if t310 = true then (incipitref06_Same.j0 k ((l0_6.length : Int) != (l1_6.length : Int)) a0_0 a0_1 a0_2 a0_3 a0_4 a0_5 l0_6 a1_0 a1_1 a1_2 a1_3 a1_4 a1_5 l1_6) else (incipitref06_Same.j0 k true a0_0 a0_1 a0_2 a0_3 a0_4 a0_5 l0_6 a1_0 a1_1 a1_2 a1_3 a1_4 a1_5 l1_6))) = some r := h
  clear h
  have HC3 := Aside0.mk H
  clear H
  go_enter Tryd.func19, Tryd.ntmps19
  go_upto_region 1 with (first | ((with_reducible refine gate_dst (N := 2) rfl ?_); (try (refine gate_guard (by rfl) ?_; dsimp only)); refine box_event ?hg (N := 2) ?hd (cs := #[.int .i64 a0_0, .string a0_1, .string a0_2, .int .i64 a0_3, .int .i64 a0_4, .bool a0_5, .slice A0_6 l0_6.length c0_6]) (t := 40) ?hr ?_; (case hd => rfl); (case hg => rfl); (case hr => first | (go_simp; done) | (go_simp; rfl)); intro gb308 hg w4 hbox hb; have n0_ := Aside0.mk (below_step (by repeat (first | (with_reducible first | exact HB.out | apply below_alloc | apply pw_below_drewN | apply below_drew1) | exact HB.out)) hb); have n1_ := Aside0.mk (hbox); have n2_ := Aside0.mk ((by rw [hg]; exact (below_size (by repeat (first | (with_reducible first | exact HB.out | apply below_alloc | apply pw_below_drewN | apply below_drew1) | exact HB.out))) : w.heap.size ≤ gb308)); have n3_ := Aside0.mk ((by rw [hg]; exact (below_size (by repeat (first | (with_reducible first | exact HB.out | apply below_alloc | apply pw_below_drewN | apply below_drew1) | exact HB.out))) : w.heap.size ≤ gb308)); clear HB; have HB := n0_; have BK308 := n1_; have GW308 := n2_; have GE308 := n3_; clear n0_ n1_ n2_ n3_; clear hb hbox hg) | ((with_reducible refine gate_dst (N := 3) rfl ?_); (try (refine gate_guard (by rfl) ?_; dsimp only)); refine box_event ?hg (N := 3) ?hd (cs := #[.int .i64 a1_0, .string a1_1, .string a1_2, .int .i64 a1_3, .int .i64 a1_4, .bool a1_5, .slice A1_6 l1_6.length c1_6]) (t := 40) ?hr ?_; (case hd => rfl); (case hg => rfl); (case hr => first | (go_simp; done) | (go_simp; rfl)); intro gb309 hg w5 hbox hb; have n0_ := Aside0.mk (blk_below (g := gb308) (o := .cells #[.int .i64 a0_0, .string a0_1, .string a0_2, .int .i64 a0_3, .int .i64 a0_4, .bool a0_5, .slice A0_6 l0_6.length c0_6] 40 (0, 0)) (by (with_reducible repeat (first | refine blk_drewN ?_ _ | refine blk_drew ?_ | refine blk_alloc ?_ _)); exact BK308.out) hb); have n1_ := Aside0.mk (below_step (by repeat (first | (with_reducible first | exact HB.out | apply below_alloc | apply pw_below_drewN | apply below_drew1 | refine below_set ?_ GE308.out) | exact HB.out)) hb); have n2_ := Aside0.mk (hbox); have n3_ := Aside0.mk ((by rw [hg]; exact (below_size (by repeat (first | (with_reducible first | exact HB.out | apply below_alloc | apply pw_below_drewN | apply below_drew1 | refine below_set ?_ GE308.out) | exact HB.out))) : w.heap.size ≤ gb309)); have n4_ := Aside0.mk ((by rw [hg]; exact (below_size (by repeat (first | (with_reducible first | exact HB.out | apply below_alloc | apply pw_below_drewN | apply below_drew1 | refine below_set ?_ GE308.out) | exact HB.out))) : w.heap.size ≤ gb309)); have n5_ := Aside0.mk ((by rw [hg]; exact Nat.ne_of_lt (blk_lt (g := gb308) (o := .cells #[.int .i64 a0_0, .string a0_1, .string a0_2, .int .i64 a0_3, .int .i64 a0_4, .bool a0_5, .slice A0_6 l0_6.length c0_6] 40 (0, 0)) (by (with_reducible repeat (first | refine blk_drewN ?_ _ | refine blk_drew ?_ | refine blk_alloc ?_ _)); exact BK308.out)) : gb308 ≠ gb309)); have n6_ := Aside0.mk ((by rw [hg]; exact Nat.ne_of_gt (blk_lt (g := gb308) (o := .cells #[.int .i64 a0_0, .string a0_1, .string a0_2, .int .i64 a0_3, .int .i64 a0_4, .bool a0_5, .slice A0_6 l0_6.length c0_6] 40 (0, 0)) (by (with_reducible repeat (first | refine blk_drewN ?_ _ | refine blk_drew ?_ | refine blk_alloc ?_ _)); exact BK308.out)) : gb309 ≠ gb308)); clear BK308; clear HB; have BK308 := n0_; have HB := n1_; have BK309 := n2_; have GW309 := n3_; have GE309 := n4_; have NB308_309 := n5_; have NB309_308 := n6_; clear n0_ n1_ n2_ n3_ n4_ n5_ n6_; clear hb hbox hg))
  (try simp only [Act.put, List.setIfInBounds_toArray, List.set_cons_zero, List.set_cons_succ])
  go_cut [18] (fun v18 wc => ∃ (kq : Nat) (x18_2 : Bool), v18 = .bool x18_2 ∧ Aside0 (incipitref06_Same.j0 kq x18_2 a0_0 a0_1 a0_2 a0_3 a0_4 a0_5 l0_6 a1_0 a1_1 a1_2 a1_3 a1_4 a1_5 l1_6 = some r) ∧ Aside0 (kq ≤ k) ∧ Aside0 (wc.heap[gb308]? = some (.cells #[.int .i64 a0_0, .string a0_1, .string a0_2, .int .i64 a0_3, .int .i64 a0_4, .bool a0_5, (.slice A0_6 l0_6.length c0_6)] 40 (0, 0))) ∧ Aside0 (wc.heap[gb309]? = some (.cells #[.int .i64 a1_0, .string a1_1, .string a1_2, .int .i64 a1_3, .int .i64 a1_4, .bool a1_5, (.slice A1_6 l1_6.length c1_6)] 40 (0, 0))) ∧ Aside0 (Below w.heap.size w wc))
  case first =>
    have H := HC3.out
    clear HC3
    replace H := Option.bind_eq_some_iff.mp H
    obtain ⟨t310, A60, H⟩ := H
    replace H : (if t310 = true then (incipitref06_Same.j0 k ((l0_6.length : Int) != (l1_6.length : Int)) a0_0 a0_1 a0_2 a0_3 a0_4 a0_5 l0_6 a1_0 a1_1 a1_2 a1_3 a1_4 a1_5 l1_6) else (incipitref06_Same.j0 k true a0_0 a0_1 a0_2 a0_3 a0_4 a0_5 l0_6 a1_0 a1_1 a1_2 a1_3 a1_4 a1_5 l1_6)) = some r := H
    have A6 := Aside0.mk A60
    clear A60
    by_cases c7 : t310 = true
    · subst c7
      have H1 : (incipitref06_Same.j0 k ((l0_6.length : Int) != (l1_6.length : Int)) a0_0 a0_1 a0_2 a0_3 a0_4 a0_5 l0_6 a1_0 a1_1 a1_2 a1_3 a1_4 a1_5 l1_6) = some r := by rw [if_pos rfl] at H; exact H
      clear H
      have H := H1
      clear H1
      have H' := Aside0.mk H
      clear H
      have hnb8 := NB308_309.out
      have hnc8 := NB309_308.out
      have hcz9_0 : w5.cell? ⟨gb308, 0, none⟩ = some (.int .i64 a0_0) := (blk_cell BK308.out 0).trans rfl
      have hcz9_1 : w5.cell? ⟨gb308, 1, none⟩ = some (.string a0_1) := (blk_cell BK308.out 1).trans rfl
      have hcz9_2 : w5.cell? ⟨gb308, 2, none⟩ = some (.string a0_2) := (blk_cell BK308.out 2).trans rfl
      have hcz9_3 : w5.cell? ⟨gb308, 3, none⟩ = some (.int .i64 a0_3) := (blk_cell BK308.out 3).trans rfl
      have hcz9_4 : w5.cell? ⟨gb308, 4, none⟩ = some (.int .i64 a0_4) := (blk_cell BK308.out 4).trans rfl
      have hcz9_5 : w5.cell? ⟨gb308, 5, none⟩ = some (.bool a0_5) := (blk_cell BK308.out 5).trans rfl
      have hcz9_6 : w5.cell? ⟨gb308, 6, none⟩ = some (.slice A0_6 l0_6.length c0_6) := (blk_cell BK308.out 6).trans rfl
      have hfz9_0 := blk_frozen BK308.out 0
      have hfz9_1 := blk_frozen BK308.out 1
      have hfz9_2 := blk_frozen BK308.out 2
      have hfz9_3 := blk_frozen BK308.out 3
      have hfz9_4 := blk_frozen BK308.out 4
      have hfz9_5 := blk_frozen BK308.out 5
      have hfz9_6 := blk_frozen BK308.out 6
      have hcz10_0 : w5.cell? ⟨gb309, 0, none⟩ = some (.int .i64 a1_0) := (blk_cell BK309.out 0).trans rfl
      have hcz10_1 : w5.cell? ⟨gb309, 1, none⟩ = some (.string a1_1) := (blk_cell BK309.out 1).trans rfl
      have hcz10_2 : w5.cell? ⟨gb309, 2, none⟩ = some (.string a1_2) := (blk_cell BK309.out 2).trans rfl
      have hcz10_3 : w5.cell? ⟨gb309, 3, none⟩ = some (.int .i64 a1_3) := (blk_cell BK309.out 3).trans rfl
      have hcz10_4 : w5.cell? ⟨gb309, 4, none⟩ = some (.int .i64 a1_4) := (blk_cell BK309.out 4).trans rfl
      have hcz10_5 : w5.cell? ⟨gb309, 5, none⟩ = some (.bool a1_5) := (blk_cell BK309.out 5).trans rfl
      have hcz10_6 : w5.cell? ⟨gb309, 6, none⟩ = some (.slice A1_6 l1_6.length c1_6) := (blk_cell BK309.out 6).trans rfl
      have hfz10_0 := blk_frozen BK309.out 0
      have hfz10_1 := blk_frozen BK309.out 1
      have hfz10_2 := blk_frozen BK309.out 2
      have hfz10_3 := blk_frozen BK309.out 3
      have hfz10_4 := blk_frozen BK309.out 4
      have hfz10_5 := blk_frozen BK309.out 5
      have hfz10_6 := blk_frozen BK309.out 6
      go_wp2_with (first | ((with_reducible refine gate_callee (f := 39) rfl ?_); refine goesL_ (some 8) rfl rfl Tryd.func39 (by kernel_rfl) rfl #[.agg #[.int .i64 a0_0, .string a0_1, .string a0_2, .int .i64 a0_3, .int .i64 a0_4, .bool a0_5, .slice A0_6 l0_6.length c0_6], .agg #[.int .i64 a1_0, .string a1_1, .string a1_2, .int .i64 a1_3, .int .i64 a1_4, .bool a1_5, .slice A1_6 l1_6.length c1_6]] rfl (by (try simp only [List.map_toArray, List.map_cons, List.map_nil]); first | done | rfl | (simp only [List.length_drop, List.length_take]; rfl)) ?_; (with_reducible refine (incipitref06_Own.calls a0_0 a0_1 a0_2 a0_3 a0_4 a0_5 _ _ l0_6 a1_0 a1_1 a1_2 a1_3 a1_4 a1_5 _ _ l1_6 true _ ?side1 ?side2 ?side3 ?side4 A6.out).mono ?_); (case side1 => repeat (first | exact (Kd.C_below HR0_6.out HB.out) | (with_reducible refine Kd.C_alloc ?_ _) | (with_reducible refine Kd.C_drewN ?_ _) | (with_reducible refine Kd.C_drew ?_))); (case side2 => exact HC0_6.out); (case side3 => repeat (first | exact (Kd.C_below HR1_6.out HB.out) | (with_reducible refine Kd.C_alloc ?_ _) | (with_reducible refine Kd.C_drewN ?_ _) | (with_reducible refine Kd.C_drew ?_))); (case side4 => exact HC1_6.out); rintro e w11 ⟨rfl, hb⟩; refine ⟨_, rfl, ?_⟩; have n0_ := Aside0.mk (blk_below (g := gb308) (o := .cells #[.int .i64 a0_0, .string a0_1, .string a0_2, .int .i64 a0_3, .int .i64 a0_4, .bool a0_5, .slice A0_6 l0_6.length c0_6] 40 (0, 0)) (by (with_reducible repeat (first | refine blk_drewN ?_ _ | refine blk_drew ?_ | refine blk_alloc ?_ _)); exact BK308.out) hb); have n1_ := Aside0.mk (blk_below (g := gb309) (o := .cells #[.int .i64 a1_0, .string a1_1, .string a1_2, .int .i64 a1_3, .int .i64 a1_4, .bool a1_5, .slice A1_6 l1_6.length c1_6] 40 (0, 0)) (by (with_reducible repeat (first | refine blk_drewN ?_ _ | refine blk_drew ?_ | refine blk_alloc ?_ _)); exact BK309.out) hb); have n2_ := Aside0.mk (below_step (by repeat (first | (with_reducible first | exact HB.out | apply below_alloc | apply pw_below_drewN | apply below_drew1 | refine below_set ?_ GE308.out | refine below_set ?_ GE309.out) | exact HB.out)) hb); clear BK308; clear BK309; clear HB; have BK308 := n0_; have BK309 := n1_; have HB := n2_; clear n0_ n1_ n2_; (try clear hb); (try clear hb2); (try clear hk); (try clear hi); have hcz12_0 : w11.cell? ⟨gb308, 0, none⟩ = some (.int .i64 a0_0) := (blk_cell BK308.out 0).trans rfl; have hcz12_1 : w11.cell? ⟨gb308, 1, none⟩ = some (.string a0_1) := (blk_cell BK308.out 1).trans rfl; have hcz12_2 : w11.cell? ⟨gb308, 2, none⟩ = some (.string a0_2) := (blk_cell BK308.out 2).trans rfl; have hcz12_3 : w11.cell? ⟨gb308, 3, none⟩ = some (.int .i64 a0_3) := (blk_cell BK308.out 3).trans rfl; have hcz12_4 : w11.cell? ⟨gb308, 4, none⟩ = some (.int .i64 a0_4) := (blk_cell BK308.out 4).trans rfl; have hcz12_5 : w11.cell? ⟨gb308, 5, none⟩ = some (.bool a0_5) := (blk_cell BK308.out 5).trans rfl; have hcz12_6 : w11.cell? ⟨gb308, 6, none⟩ = some (.slice A0_6 l0_6.length c0_6) := (blk_cell BK308.out 6).trans rfl; have hfz12_0 := blk_frozen BK308.out 0; have hfz12_1 := blk_frozen BK308.out 1; have hfz12_2 := blk_frozen BK308.out 2; have hfz12_3 := blk_frozen BK308.out 3; have hfz12_4 := blk_frozen BK308.out 4; have hfz12_5 := blk_frozen BK308.out 5; have hfz12_6 := blk_frozen BK308.out 6; have hcz13_0 : w11.cell? ⟨gb309, 0, none⟩ = some (.int .i64 a1_0) := (blk_cell BK309.out 0).trans rfl; have hcz13_1 : w11.cell? ⟨gb309, 1, none⟩ = some (.string a1_1) := (blk_cell BK309.out 1).trans rfl; have hcz13_2 : w11.cell? ⟨gb309, 2, none⟩ = some (.string a1_2) := (blk_cell BK309.out 2).trans rfl; have hcz13_3 : w11.cell? ⟨gb309, 3, none⟩ = some (.int .i64 a1_3) := (blk_cell BK309.out 3).trans rfl; have hcz13_4 : w11.cell? ⟨gb309, 4, none⟩ = some (.int .i64 a1_4) := (blk_cell BK309.out 4).trans rfl; have hcz13_5 : w11.cell? ⟨gb309, 5, none⟩ = some (.bool a1_5) := (blk_cell BK309.out 5).trans rfl; have hcz13_6 : w11.cell? ⟨gb309, 6, none⟩ = some (.slice A1_6 l1_6.length c1_6) := (blk_cell BK309.out 6).trans rfl; have hfz13_0 := blk_frozen BK309.out 0; have hfz13_1 := blk_frozen BK309.out 1; have hfz13_2 := blk_frozen BK309.out 2; have hfz13_3 := blk_frozen BK309.out 3; have hfz13_4 := blk_frozen BK309.out 4; have hfz13_5 := blk_frozen BK309.out 5; have hfz13_6 := blk_frozen BK309.out 6))
      go_meet
      case rel => exact ⟨_, (((l0_6.length : Int) != (l1_6.length : Int))), (by first | rfl | (simp; done) | (simp [*]; done)), H', ⟨by first | omega | exact Nat.le_refl _⟩, ⟨by (with_reducible repeat (first | refine blk_drewN ?_ _ | refine blk_drew ?_ | refine blk_alloc ?_ _)); exact BK308.out⟩, ⟨by (with_reducible repeat (first | refine blk_drewN ?_ _ | refine blk_drew ?_ | refine blk_alloc ?_ _)); exact BK309.out⟩, ⟨by repeat (first | (with_reducible first | exact HB.out | apply below_alloc | apply pw_below_drewN | apply below_drew1 | refine below_set ?_ GE308.out | refine below_set ?_ GE309.out) | exact HB.out)⟩⟩
    · replace c7 := Bool.eq_false_iff.mpr c7
      subst c7
      have H1 : (incipitref06_Same.j0 k true a0_0 a0_1 a0_2 a0_3 a0_4 a0_5 l0_6 a1_0 a1_1 a1_2 a1_3 a1_4 a1_5 l1_6) = some r := by rw [if_neg (show ¬ (false = true) by decide)] at H; exact H
      clear H
      have H := H1
      clear H1
      have H' := Aside0.mk H
      clear H
      have hnb14 := NB308_309.out
      have hnc14 := NB309_308.out
      have hcz15_0 : w5.cell? ⟨gb308, 0, none⟩ = some (.int .i64 a0_0) := (blk_cell BK308.out 0).trans rfl
      have hcz15_1 : w5.cell? ⟨gb308, 1, none⟩ = some (.string a0_1) := (blk_cell BK308.out 1).trans rfl
      have hcz15_2 : w5.cell? ⟨gb308, 2, none⟩ = some (.string a0_2) := (blk_cell BK308.out 2).trans rfl
      have hcz15_3 : w5.cell? ⟨gb308, 3, none⟩ = some (.int .i64 a0_3) := (blk_cell BK308.out 3).trans rfl
      have hcz15_4 : w5.cell? ⟨gb308, 4, none⟩ = some (.int .i64 a0_4) := (blk_cell BK308.out 4).trans rfl
      have hcz15_5 : w5.cell? ⟨gb308, 5, none⟩ = some (.bool a0_5) := (blk_cell BK308.out 5).trans rfl
      have hcz15_6 : w5.cell? ⟨gb308, 6, none⟩ = some (.slice A0_6 l0_6.length c0_6) := (blk_cell BK308.out 6).trans rfl
      have hfz15_0 := blk_frozen BK308.out 0
      have hfz15_1 := blk_frozen BK308.out 1
      have hfz15_2 := blk_frozen BK308.out 2
      have hfz15_3 := blk_frozen BK308.out 3
      have hfz15_4 := blk_frozen BK308.out 4
      have hfz15_5 := blk_frozen BK308.out 5
      have hfz15_6 := blk_frozen BK308.out 6
      have hcz16_0 : w5.cell? ⟨gb309, 0, none⟩ = some (.int .i64 a1_0) := (blk_cell BK309.out 0).trans rfl
      have hcz16_1 : w5.cell? ⟨gb309, 1, none⟩ = some (.string a1_1) := (blk_cell BK309.out 1).trans rfl
      have hcz16_2 : w5.cell? ⟨gb309, 2, none⟩ = some (.string a1_2) := (blk_cell BK309.out 2).trans rfl
      have hcz16_3 : w5.cell? ⟨gb309, 3, none⟩ = some (.int .i64 a1_3) := (blk_cell BK309.out 3).trans rfl
      have hcz16_4 : w5.cell? ⟨gb309, 4, none⟩ = some (.int .i64 a1_4) := (blk_cell BK309.out 4).trans rfl
      have hcz16_5 : w5.cell? ⟨gb309, 5, none⟩ = some (.bool a1_5) := (blk_cell BK309.out 5).trans rfl
      have hcz16_6 : w5.cell? ⟨gb309, 6, none⟩ = some (.slice A1_6 l1_6.length c1_6) := (blk_cell BK309.out 6).trans rfl
      have hfz16_0 := blk_frozen BK309.out 0
      have hfz16_1 := blk_frozen BK309.out 1
      have hfz16_2 := blk_frozen BK309.out 2
      have hfz16_3 := blk_frozen BK309.out 3
      have hfz16_4 := blk_frozen BK309.out 4
      have hfz16_5 := blk_frozen BK309.out 5
      have hfz16_6 := blk_frozen BK309.out 6
      go_wp2_with (first | ((with_reducible refine gate_callee (f := 39) rfl ?_); refine goesL_ (some 8) rfl rfl Tryd.func39 (by kernel_rfl) rfl #[.agg #[.int .i64 a0_0, .string a0_1, .string a0_2, .int .i64 a0_3, .int .i64 a0_4, .bool a0_5, .slice A0_6 l0_6.length c0_6], .agg #[.int .i64 a1_0, .string a1_1, .string a1_2, .int .i64 a1_3, .int .i64 a1_4, .bool a1_5, .slice A1_6 l1_6.length c1_6]] rfl (by (try simp only [List.map_toArray, List.map_cons, List.map_nil]); first | done | rfl | (simp only [List.length_drop, List.length_take]; rfl)) ?_; (with_reducible refine (incipitref06_Own.calls a0_0 a0_1 a0_2 a0_3 a0_4 a0_5 _ _ l0_6 a1_0 a1_1 a1_2 a1_3 a1_4 a1_5 _ _ l1_6 false _ ?side1 ?side2 ?side3 ?side4 A6.out).mono ?_); (case side1 => repeat (first | exact (Kd.C_below HR0_6.out HB.out) | (with_reducible refine Kd.C_alloc ?_ _) | (with_reducible refine Kd.C_drewN ?_ _) | (with_reducible refine Kd.C_drew ?_))); (case side2 => exact HC0_6.out); (case side3 => repeat (first | exact (Kd.C_below HR1_6.out HB.out) | (with_reducible refine Kd.C_alloc ?_ _) | (with_reducible refine Kd.C_drewN ?_ _) | (with_reducible refine Kd.C_drew ?_))); (case side4 => exact HC1_6.out); rintro e w17 ⟨rfl, hb⟩; refine ⟨_, rfl, ?_⟩; have n0_ := Aside0.mk (blk_below (g := gb308) (o := .cells #[.int .i64 a0_0, .string a0_1, .string a0_2, .int .i64 a0_3, .int .i64 a0_4, .bool a0_5, .slice A0_6 l0_6.length c0_6] 40 (0, 0)) (by (with_reducible repeat (first | refine blk_drewN ?_ _ | refine blk_drew ?_ | refine blk_alloc ?_ _)); exact BK308.out) hb); have n1_ := Aside0.mk (blk_below (g := gb309) (o := .cells #[.int .i64 a1_0, .string a1_1, .string a1_2, .int .i64 a1_3, .int .i64 a1_4, .bool a1_5, .slice A1_6 l1_6.length c1_6] 40 (0, 0)) (by (with_reducible repeat (first | refine blk_drewN ?_ _ | refine blk_drew ?_ | refine blk_alloc ?_ _)); exact BK309.out) hb); have n2_ := Aside0.mk (below_step (by repeat (first | (with_reducible first | exact HB.out | apply below_alloc | apply pw_below_drewN | apply below_drew1 | refine below_set ?_ GE308.out | refine below_set ?_ GE309.out) | exact HB.out)) hb); clear BK308; clear BK309; clear HB; have BK308 := n0_; have BK309 := n1_; have HB := n2_; clear n0_ n1_ n2_; (try clear hb); (try clear hb2); (try clear hk); (try clear hi)))
      go_meet
      case rel => exact ⟨_, (true), (by first | rfl | (simp; done) | (simp [*]; done)), H', ⟨by first | omega | exact Nat.le_refl _⟩, ⟨by (with_reducible repeat (first | refine blk_drewN ?_ _ | refine blk_drew ?_ | refine blk_alloc ?_ _)); exact BK308.out⟩, ⟨by (with_reducible repeat (first | refine blk_drewN ?_ _ | refine blk_drew ?_ | refine blk_alloc ?_ _)); exact BK309.out⟩, ⟨by repeat (first | (with_reducible first | exact HB.out | apply below_alloc | apply pw_below_drewN | apply below_drew1 | refine below_set ?_ GE308.out | refine below_set ?_ GE309.out) | exact HB.out)⟩⟩
  case rest =>
    clear HC3
    try clear c1
    try clear p2
    try clear c3
    try clear c7
    try clear c8
    try clear c14
    try clear hcz10_0
    try clear hcz10_1
    try clear hcz10_2
    try clear hcz10_3
    try clear hcz10_4
    try clear hcz10_5
    try clear hcz10_6
    try clear hcz12_0
    try clear hcz12_1
    try clear hcz12_2
    try clear hcz12_3
    try clear hcz12_4
    try clear hcz12_5
    try clear hcz12_6
    try clear hcz13_0
    try clear hcz13_1
    try clear hcz13_2
    try clear hcz13_3
    try clear hcz13_4
    try clear hcz13_5
    try clear hcz13_6
    try clear hcz15_0
    try clear hcz15_1
    try clear hcz15_2
    try clear hcz15_3
    try clear hcz15_4
    try clear hcz15_5
    try clear hcz15_6
    try clear hcz16_0
    try clear hcz16_1
    try clear hcz16_2
    try clear hcz16_3
    try clear hcz16_4
    try clear hcz16_5
    try clear hcz16_6
    try clear hcz9_0
    try clear hcz9_1
    try clear hcz9_2
    try clear hcz9_3
    try clear hcz9_4
    try clear hcz9_5
    try clear hcz9_6
    try clear hfz10_0
    try clear hfz10_1
    try clear hfz10_2
    try clear hfz10_3
    try clear hfz10_4
    try clear hfz10_5
    try clear hfz10_6
    try clear hfz12_0
    try clear hfz12_1
    try clear hfz12_2
    try clear hfz12_3
    try clear hfz12_4
    try clear hfz12_5
    try clear hfz12_6
    try clear hfz13_0
    try clear hfz13_1
    try clear hfz13_2
    try clear hfz13_3
    try clear hfz13_4
    try clear hfz13_5
    try clear hfz13_6
    try clear hfz15_0
    try clear hfz15_1
    try clear hfz15_2
    try clear hfz15_3
    try clear hfz15_4
    try clear hfz15_5
    try clear hfz15_6
    try clear hfz16_0
    try clear hfz16_1
    try clear hfz16_2
    try clear hfz16_3
    try clear hfz16_4
    try clear hfz16_5
    try clear hfz16_6
    try clear hfz9_0
    try clear hfz9_1
    try clear hfz9_2
    try clear hfz9_3
    try clear hfz9_4
    try clear hfz9_5
    try clear hfz9_6
    obtain ⟨kq, x18_2, rfl, HA, HJ2, BK308, BK309, HB⟩ := hcut
    cases kq with
    | zero => exact absurd HA.out (by simp [incipitref06_Same.j0])
    | succ kj2 =>
      have H := HA.out
      clear HA
      simp only [incipitref06_Same.j0] at H
      by_cases c18 : x18_2 = true
      · subst c18
        have H1 : (some false) = some r := by rw [if_pos rfl] at H; exact H
        clear H
        have H := H1
        clear H1
        obtain rfl := Option.some.inj H
        go_wp2
        go_ret
        exact ⟨by first | rfl | (simp [errW_none, errW_some] <;> rfl) | (simp [*, errW_none, errW_some] <;> rfl), by repeat (first | (with_reducible first | exact HB.out | apply below_alloc | apply pw_below_drewN | apply below_drew1 | refine below_set ?_ GE308.out | refine below_set ?_ GE309.out) | exact HB.out)⟩
      · replace c18 := Bool.eq_false_iff.mpr c18
        subst c18
        have H1 : (incipitref06_Same.l0 kj2 0 a0_0 a0_1 a0_2 a0_3 a0_4 a0_5 l0_6 a1_0 a1_1 a1_2 a1_3 a1_4 a1_5 l1_6) = some r := by rw [if_neg (show ¬ (false = true) by decide)] at H; exact H
        clear H
        have H := H1
        clear H1
        have H' := Aside0.mk H
        clear H
        go_wp2
        go_loopg [5] kj2 (fun kq v5 w' => ∃ (x5_2 : Int), v5 = .int .i64 x5_2 ∧ Aside0 (incipitref06_Same.l0 kq x5_2 a0_0 a0_1 a0_2 a0_3 a0_4 a0_5 l0_6 a1_0 a1_1 a1_2 a1_3 a1_4 a1_5 l1_6 = some r) ∧ Aside0 (kq ≤ kj2) ∧ Aside0 (w'.heap[gb308]? = some (.cells #[.int .i64 a0_0, .string a0_1, .string a0_2, .int .i64 a0_3, .int .i64 a0_4, .bool a0_5, (.slice A0_6 l0_6.length c0_6)] 40 (0, 0))) ∧ Aside0 (w'.heap[gb309]? = some (.cells #[.int .i64 a1_0, .string a1_1, .string a1_2, .int .i64 a1_3, .int .i64 a1_4, .bool a1_5, (.slice A1_6 l1_6.length c1_6)] 40 (0, 0))) ∧ Aside0 (Below w.heap.size w w'))
        case atStart => exact ⟨(0), (by first | rfl | (simp; done) | (simp [*]; done)), H', ⟨Nat.le_refl _⟩, ⟨by (with_reducible repeat (first | refine blk_drewN ?_ _ | refine blk_drew ?_ | refine blk_alloc ?_ _)); exact BK308.out⟩, ⟨by (with_reducible repeat (first | refine blk_drewN ?_ _ | refine blk_drew ?_ | refine blk_alloc ?_ _)); exact BK309.out⟩, ⟨by repeat (first | (with_reducible first | exact HB.out | apply below_alloc | apply pw_below_drewN | apply below_drew1 | refine below_set ?_ GE308.out | refine below_set ?_ GE309.out) | exact HB.out)⟩⟩
        case round =>
          clear H'
          try clear c1
          try clear p2
          try clear c3
          try clear c7
          try clear c8
          try clear c14
          try clear c18
          try clear hcz10_0
          try clear hcz10_1
          try clear hcz10_2
          try clear hcz10_3
          try clear hcz10_4
          try clear hcz10_5
          try clear hcz10_6
          try clear hcz12_0
          try clear hcz12_1
          try clear hcz12_2
          try clear hcz12_3
          try clear hcz12_4
          try clear hcz12_5
          try clear hcz12_6
          try clear hcz13_0
          try clear hcz13_1
          try clear hcz13_2
          try clear hcz13_3
          try clear hcz13_4
          try clear hcz13_5
          try clear hcz13_6
          try clear hcz15_0
          try clear hcz15_1
          try clear hcz15_2
          try clear hcz15_3
          try clear hcz15_4
          try clear hcz15_5
          try clear hcz15_6
          try clear hcz16_0
          try clear hcz16_1
          try clear hcz16_2
          try clear hcz16_3
          try clear hcz16_4
          try clear hcz16_5
          try clear hcz16_6
          try clear hcz9_0
          try clear hcz9_1
          try clear hcz9_2
          try clear hcz9_3
          try clear hcz9_4
          try clear hcz9_5
          try clear hcz9_6
          try clear hfz10_0
          try clear hfz10_1
          try clear hfz10_2
          try clear hfz10_3
          try clear hfz10_4
          try clear hfz10_5
          try clear hfz10_6
          try clear hfz12_0
          try clear hfz12_1
          try clear hfz12_2
          try clear hfz12_3
          try clear hfz12_4
          try clear hfz12_5
          try clear hfz12_6
          try clear hfz13_0
          try clear hfz13_1
          try clear hfz13_2
          try clear hfz13_3
          try clear hfz13_4
          try clear hfz13_5
          try clear hfz13_6
          try clear hfz15_0
          try clear hfz15_1
          try clear hfz15_2
          try clear hfz15_3
          try clear hfz15_4
          try clear hfz15_5
          try clear hfz15_6
          try clear hfz16_0
          try clear hfz16_1
          try clear hfz16_2
          try clear hfz16_3
          try clear hfz16_4
          try clear hfz16_5
          try clear hfz16_6
          try clear hfz9_0
          try clear hfz9_1
          try clear hfz9_2
          try clear hfz9_3
          try clear hfz9_4
          try clear hfz9_5
          try clear hfz9_6
          try clear p2
          obtain ⟨x5_2, rfl, HA, HK2, BK308, BK309, HB⟩ := hrel
          cases gk with
          | zero => exact absurd HA.out (by simp [incipitref06_Same.l0])
          | succ k2 =>
            have H := HA.out
            clear HA
            simp only [incipitref06_Same.l0] at H
            by_cases c19 : x5_2 < (l0_6.length : Int)
            · rw [if_pos c19] at H
              have c19b0 : decide (x5_2 < (l0_6.length : Int)) = true := decide_eq_true c19
              clear c19
              by_cases c20 : 0 ≤ x5_2
              · rw [if_pos c20] at H
                have c20b0 : decide (0 ≤ x5_2) = true := decide_eq_true c20
                clear c20
                by_cases c21 : x5_2 < (l1_6.length : Int)
                · rw [if_pos c21] at H
                  have c21b0 : decide (x5_2 < (l1_6.length : Int)) = true := decide_eq_true c21
                  clear c21
                  replace H := Option.bind_eq_some_iff.mp H
                  obtain ⟨t313, A220, H⟩ := H
                  replace H : (if t313 = true then (incipitref06_Same.l0 k2 (wrap64 (x5_2 + 1)) a0_0 a0_1 a0_2 a0_3 a0_4 a0_5 l0_6 a1_0 a1_1 a1_2 a1_3 a1_4 a1_5 l1_6) else (some false)) = some r := H
                  have A22 := Aside0.mk A220
                  clear A220
                  by_cases c23 : t313 = true
                  · subst c23
                    have H1 : (incipitref06_Same.l0 k2 (wrap64 (x5_2 + 1)) a0_0 a0_1 a0_2 a0_3 a0_4 a0_5 l0_6 a1_0 a1_1 a1_2 a1_3 a1_4 a1_5 l1_6) = some r := by rw [if_pos rfl] at H; exact H
                    clear H
                    have H := H1
                    clear H1
                    have H' := Aside0.mk H
                    clear H
                    have hnb24 := NB308_309.out
                    have hnc24 := NB309_308.out
                    have hcz25_0 : wr.cell? ⟨gb308, 0, none⟩ = some (.int .i64 a0_0) := (blk_cell BK308.out 0).trans rfl
                    have hcz25_1 : wr.cell? ⟨gb308, 1, none⟩ = some (.string a0_1) := (blk_cell BK308.out 1).trans rfl
                    have hcz25_2 : wr.cell? ⟨gb308, 2, none⟩ = some (.string a0_2) := (blk_cell BK308.out 2).trans rfl
                    have hcz25_3 : wr.cell? ⟨gb308, 3, none⟩ = some (.int .i64 a0_3) := (blk_cell BK308.out 3).trans rfl
                    have hcz25_4 : wr.cell? ⟨gb308, 4, none⟩ = some (.int .i64 a0_4) := (blk_cell BK308.out 4).trans rfl
                    have hcz25_5 : wr.cell? ⟨gb308, 5, none⟩ = some (.bool a0_5) := (blk_cell BK308.out 5).trans rfl
                    have hcz25_6 : wr.cell? ⟨gb308, 6, none⟩ = some (.slice A0_6 l0_6.length c0_6) := (blk_cell BK308.out 6).trans rfl
                    have hfz25_0 := blk_frozen BK308.out 0
                    have hfz25_1 := blk_frozen BK308.out 1
                    have hfz25_2 := blk_frozen BK308.out 2
                    have hfz25_3 := blk_frozen BK308.out 3
                    have hfz25_4 := blk_frozen BK308.out 4
                    have hfz25_5 := blk_frozen BK308.out 5
                    have hfz25_6 := blk_frozen BK308.out 6
                    try go_wp2
                    have n0_ := Aside0.mk (blk_drew BK308.out)
                    have n1_ := Aside0.mk (blk_drew BK309.out)
                    have n2_ := Aside0.mk (below_drew1 HB.out)
                    clear BK308
                    clear BK309
                    clear HB
                    have BK308 := n0_
                    have BK309 := n1_
                    have HB := n2_
                    clear n0_ n1_ n2_
                    have p311 : 0 ≤ (x5_2 : Int) := of_decide_eq_true (by first | (with_reducible assumption) | assumption)
                    have q311 : x5_2 < (l0_6.length : Int) := of_decide_eq_true (by first | (with_reducible assumption) | assumption)
                    obtain ⟨ad311, A311_6, c311_6, e311, hx311_0, hx311_1, hx311_2, hx311_3, hx311_4, hx311_5, hx311_6, hl311_6, hi311_6⟩ := at_T40 HR0_6.out x5_2 p311 q311
                    have hw311_6 := hx311_6
                    have hw311_5 := hx311_5
                    have hw311_4 := hx311_4
                    have hw311_3 := hx311_3
                    have hw311_2 := hx311_2
                    have hw311_1 := hx311_1
                    have hw311_0 := hx311_0
                    cases e311
                    replace hx311_0 := (HB.out.cell (World.block_lt_of_cell? w _ hx311_0)).trans hx311_0
                    replace hx311_1 := (HB.out.cell (World.block_lt_of_cell? w _ hx311_1)).trans hx311_1
                    replace hx311_2 := (HB.out.cell (World.block_lt_of_cell? w _ hx311_2)).trans hx311_2
                    replace hx311_3 := (HB.out.cell (World.block_lt_of_cell? w _ hx311_3)).trans hx311_3
                    replace hx311_4 := (HB.out.cell (World.block_lt_of_cell? w _ hx311_4)).trans hx311_4
                    replace hx311_5 := (HB.out.cell (World.block_lt_of_cell? w _ hx311_5)).trans hx311_5
                    replace hx311_6 := (HB.out.cell (World.block_lt_of_cell? w _ hx311_6)).trans hx311_6
                    have HR311_6 := Aside0.mk hi311_6
                    have HC311_6 := Aside0.mk hl311_6
                    clear hi311_6 hl311_6
                    replace p311 := eq_true p311
                    replace q311 := eq_true q311
                    have p312 : 0 ≤ (x5_2 : Int) := of_decide_eq_true (by first | (with_reducible assumption) | assumption)
                    have q312 : x5_2 < (l1_6.length : Int) := of_decide_eq_true (by first | (with_reducible assumption) | assumption)
                    obtain ⟨ad312, A312_6, c312_6, e312, hx312_0, hx312_1, hx312_2, hx312_3, hx312_4, hx312_5, hx312_6, hl312_6, hi312_6⟩ := at_T40 HR1_6.out x5_2 p312 q312
                    have hw312_6 := hx312_6
                    have hw312_5 := hx312_5
                    have hw312_4 := hx312_4
                    have hw312_3 := hx312_3
                    have hw312_2 := hx312_2
                    have hw312_1 := hx312_1
                    have hw312_0 := hx312_0
                    cases e312
                    replace hx312_0 := (HB.out.cell (World.block_lt_of_cell? w _ hx312_0)).trans hx312_0
                    replace hx312_1 := (HB.out.cell (World.block_lt_of_cell? w _ hx312_1)).trans hx312_1
                    replace hx312_2 := (HB.out.cell (World.block_lt_of_cell? w _ hx312_2)).trans hx312_2
                    replace hx312_3 := (HB.out.cell (World.block_lt_of_cell? w _ hx312_3)).trans hx312_3
                    replace hx312_4 := (HB.out.cell (World.block_lt_of_cell? w _ hx312_4)).trans hx312_4
                    replace hx312_5 := (HB.out.cell (World.block_lt_of_cell? w _ hx312_5)).trans hx312_5
                    replace hx312_6 := (HB.out.cell (World.block_lt_of_cell? w _ hx312_6)).trans hx312_6
                    have HR312_6 := Aside0.mk hi312_6
                    have HC312_6 := Aside0.mk hl312_6
                    clear hi312_6 hl312_6
                    replace p312 := eq_true p312
                    replace q312 := eq_true q312
                    refine start_ (n := 12) (S := fun w' => w'.cell? ⟨gb308, 0, none⟩ = some (.int .i64 a0_0) ∧ w'.cell? ⟨gb308, 1, none⟩ = some (.string a0_1) ∧ w'.cell? ⟨gb308, 2, none⟩ = some (.string a0_2) ∧ w'.cell? ⟨gb308, 3, none⟩ = some (.int .i64 a0_3) ∧ w'.cell? ⟨gb308, 4, none⟩ = some (.int .i64 a0_4) ∧ w'.cell? ⟨gb308, 5, none⟩ = some (.bool a0_5) ∧ w'.cell? ⟨gb308, 6, none⟩ = some (.slice (some ad311) l0_6.length c0_6) ∧ w'.cell? ⟨gb309, 0, none⟩ = some (.int .i64 a1_0) ∧ w'.cell? ⟨gb309, 1, none⟩ = some (.string a1_1) ∧ w'.cell? ⟨gb309, 2, none⟩ = some (.string a1_2) ∧ w'.cell? ⟨gb309, 3, none⟩ = some (.int .i64 a1_3) ∧ w'.cell? ⟨gb309, 4, none⟩ = some (.int .i64 a1_4) ∧ w'.cell? ⟨gb309, 5, none⟩ = some (.bool a1_5) ∧ w'.cell? ⟨gb309, 6, none⟩ = some (.slice (some ad312) l1_6.length c1_6) ∧ w'.cell? (ad311.add ((x5_2).toNat * 7)) = some (.int .i64 ((rd_T40 l0_6 x5_2).f0)) ∧ w'.cell? ⟨(ad311.add ((x5_2).toNat * 7)).block, (ad311.add ((x5_2).toNat * 7)).off + 1, none⟩ = some (.string ((rd_T40 l0_6 x5_2).f1)) ∧ w'.cell? ⟨(ad311.add ((x5_2).toNat * 7)).block, (ad311.add ((x5_2).toNat * 7)).off + 2, none⟩ = some (.string ((rd_T40 l0_6 x5_2).f2)) ∧ w'.cell? ⟨(ad311.add ((x5_2).toNat * 7)).block, (ad311.add ((x5_2).toNat * 7)).off + 3, none⟩ = some (.int .i64 ((rd_T40 l0_6 x5_2).f3)) ∧ w'.cell? ⟨(ad311.add ((x5_2).toNat * 7)).block, (ad311.add ((x5_2).toNat * 7)).off + 4, none⟩ = some (.int .i64 ((rd_T40 l0_6 x5_2).f4)) ∧ w'.cell? ⟨(ad311.add ((x5_2).toNat * 7)).block, (ad311.add ((x5_2).toNat * 7)).off + 5, none⟩ = some (.bool ((rd_T40 l0_6 x5_2).f5)) ∧ w'.cell? ⟨(ad311.add ((x5_2).toNat * 7)).block, (ad311.add ((x5_2).toNat * 7)).off + 6, none⟩ = some (.slice A311_6 ((rd_T40 l0_6 x5_2).f6).length c311_6) ∧ w'.cell? (ad312.add ((x5_2).toNat * 7)) = some (.int .i64 ((rd_T40 l1_6 x5_2).f0)) ∧ w'.cell? ⟨(ad312.add ((x5_2).toNat * 7)).block, (ad312.add ((x5_2).toNat * 7)).off + 1, none⟩ = some (.string ((rd_T40 l1_6 x5_2).f1)) ∧ w'.cell? ⟨(ad312.add ((x5_2).toNat * 7)).block, (ad312.add ((x5_2).toNat * 7)).off + 2, none⟩ = some (.string ((rd_T40 l1_6 x5_2).f2)) ∧ w'.cell? ⟨(ad312.add ((x5_2).toNat * 7)).block, (ad312.add ((x5_2).toNat * 7)).off + 3, none⟩ = some (.int .i64 ((rd_T40 l1_6 x5_2).f3)) ∧ w'.cell? ⟨(ad312.add ((x5_2).toNat * 7)).block, (ad312.add ((x5_2).toNat * 7)).off + 4, none⟩ = some (.int .i64 ((rd_T40 l1_6 x5_2).f4)) ∧ w'.cell? ⟨(ad312.add ((x5_2).toNat * 7)).block, (ad312.add ((x5_2).toNat * 7)).off + 5, none⟩ = some (.bool ((rd_T40 l1_6 x5_2).f5)) ∧ w'.cell? ⟨(ad312.add ((x5_2).toNat * 7)).block, (ad312.add ((x5_2).toNat * 7)).off + 6, none⟩ = some (.slice A312_6 ((rd_T40 l1_6 x5_2).f6).length c312_6)) (ds := []) #[false, false, false, false, false, false, false, false, false, false, false, false] (by kernel_rfl) rfl rfl ⟨(blk_cell BK308.out 0).trans rfl, (blk_cell BK308.out 1).trans rfl, (blk_cell BK308.out 2).trans rfl, (blk_cell BK308.out 3).trans rfl, (blk_cell BK308.out 4).trans rfl, (blk_cell BK308.out 5).trans rfl, (blk_cell BK308.out 6).trans rfl, (blk_cell BK309.out 0).trans rfl, (blk_cell BK309.out 1).trans rfl, (blk_cell BK309.out 2).trans rfl, (blk_cell BK309.out 3).trans rfl, (blk_cell BK309.out 4).trans rfl, (blk_cell BK309.out 5).trans rfl, (blk_cell BK309.out 6).trans rfl, ((HB.out.cell (World.block_lt_of_cell? w _ hw311_0)).trans hw311_0), ((HB.out.cell (World.block_lt_of_cell? w _ hw311_1)).trans hw311_1), ((HB.out.cell (World.block_lt_of_cell? w _ hw311_2)).trans hw311_2), ((HB.out.cell (World.block_lt_of_cell? w _ hw311_3)).trans hw311_3), ((HB.out.cell (World.block_lt_of_cell? w _ hw311_4)).trans hw311_4), ((HB.out.cell (World.block_lt_of_cell? w _ hw311_5)).trans hw311_5), ((HB.out.cell (World.block_lt_of_cell? w _ hw311_6)).trans hw311_6), ((HB.out.cell (World.block_lt_of_cell? w _ hw312_0)).trans hw312_0), ((HB.out.cell (World.block_lt_of_cell? w _ hw312_1)).trans hw312_1), ((HB.out.cell (World.block_lt_of_cell? w _ hw312_2)).trans hw312_2), ((HB.out.cell (World.block_lt_of_cell? w _ hw312_3)).trans hw312_3), ((HB.out.cell (World.block_lt_of_cell? w _ hw312_4)).trans hw312_4), ((HB.out.cell (World.block_lt_of_cell? w _ hw312_5)).trans hw312_5), ((HB.out.cell (World.block_lt_of_cell? w _ hw312_6)).trans hw312_6)⟩ (fun hHeld => ?_); refine with_tabW incipitref06_Same.tab6 incipitref06_Same.bits6 (fun HT_ HW_ => ?_)
                    generalize wr.drew = w26 at BK308 BK309 HB HR311_6 HR312_6 hx311_0 hx311_1 hx311_2 hx311_3 hx311_4 hx311_5 hx311_6 hx312_0 hx312_1 hx312_2 hx312_3 hx312_4 hx312_5 hx312_6 hHeld ⊢
                    refine pure_ (i := 0) (N := some 26) (v := ?_) (a' := ?_) #[true, false, false, false, false, false, false, false, false, false, false, false] rfl rfl (any_of HT_.out (by kernel_rfl)) (fun _ _ _ h => h) (Or.inl ⟨by rfl, ?_⟩) ?_ ?_
                    rotate_left
                    · intro w'
                      go_simp
                      with_reducible rfl
                    rotate_left
                    · simp only [Act.put, List.setIfInBounds_toArray, List.set_cons_zero, List.set_cons_succ, i64_w, i32_w]
                      rfl
                    refine pure_ (i := 2) (N := some 28) (v := ?_) (a' := ?_) #[true, false, true, false, false, false, false, false, false, false, false, false] rfl rfl (any_of HT_.out (by kernel_rfl)) (fun _ _ _ h => h) (Or.inl ⟨by rfl, ?_⟩) ?_ ?_
                    rotate_left
                    · intro w'
                      go_simp
                      with_reducible rfl
                    rotate_left
                    · simp only [Act.put, List.setIfInBounds_toArray, List.set_cons_zero, List.set_cons_succ, i64_w, i32_w]
                      rfl
                    refine pure_ (i := 5) (N := some 31) (v := ?_) (a' := ?_) #[true, false, true, false, false, true, false, false, false, false, false, false] rfl rfl (any_of HT_.out (by kernel_rfl)) (fun _ _ _ h => h) (Or.inl ⟨by rfl, ?_⟩) ?_ ?_
                    rotate_left
                    · intro w'
                      go_simp
                      with_reducible rfl
                    rotate_left
                    · simp only [Act.put, List.setIfInBounds_toArray, List.set_cons_zero, List.set_cons_succ, i64_w, i32_w]
                      rfl
                    refine pure_ (i := 7) (N := some 33) (v := ?_) (a' := ?_) #[true, false, true, false, false, true, false, true, false, false, false, false] rfl rfl (any_of HT_.out (by kernel_rfl)) (fun _ _ _ h => h) (Or.inl ⟨by rfl, ?_⟩) ?_ ?_
                    rotate_left
                    · intro w'
                      go_simp
                      with_reducible rfl
                    rotate_left
                    · simp only [Act.put, List.setIfInBounds_toArray, List.set_cons_zero, List.set_cons_succ, i64_w, i32_w]
                      rfl
                    refine take_ (i := 1) (N := some 27) (v := ?_) (a' := ?_) #[true, true, true, false, false, true, false, true, false, false, false, false] rfl rfl (take_ofW HT_.out HW_.out (by kernel_rfl)) (fun _ _ _ h => h) (Or.inl ⟨by rfl, ?_⟩) hHeld ?_ ?_
                    rotate_left
                    · rintro w' ⟨s0, s1, s2, s3, s4, s5, s6, s7, s8, s9, s10, s11, s12, s13, s14, s15, s16, s17, s18, s19, s20, s21, s22, s23, s24, s25, s26, s27⟩
                      go_simp
                      with_reducible rfl
                    rotate_left
                    · simp only [Act.put, List.setIfInBounds_toArray, List.set_cons_zero, List.set_cons_succ, i64_w, i32_w]
                      rfl
                    refine pure_ (i := 3) (N := some 29) (v := ?_) (a' := ?_) #[true, true, true, true, false, true, false, true, false, false, false, false] rfl rfl (any_of HT_.out (by kernel_rfl)) (fun _ _ _ h => h) (Or.inl ⟨by rfl, ?_⟩) ?_ ?_
                    rotate_left
                    · intro w'
                      go_simp
                      with_reducible rfl
                    rotate_left
                    · simp only [Act.put, List.setIfInBounds_toArray, List.set_cons_zero, List.set_cons_succ, i64_w, i32_w]
                      rfl
                    refine take_ (i := 4) (N := some 30) (v := ?_) (a' := ?_) #[true, true, true, true, true, true, false, true, false, false, false, false] rfl rfl (take_ofW HT_.out HW_.out (by kernel_rfl)) (fun _ _ _ h => h) (Or.inl ⟨by rfl, ?_⟩) hHeld ?_ ?_
                    rotate_left
                    · rintro w' ⟨s0, s1, s2, s3, s4, s5, s6, s7, s8, s9, s10, s11, s12, s13, s14, s15, s16, s17, s18, s19, s20, s21, s22, s23, s24, s25, s26, s27⟩
                      go_simp
                      with_reducible rfl
                    rotate_left
                    · simp only [Act.put, List.setIfInBounds_toArray, List.set_cons_zero, List.set_cons_succ, i64_w, i32_w]
                      rfl
                    refine take_ (i := 6) (N := some 32) (v := ?_) (a' := ?_) #[true, true, true, true, true, true, true, true, false, false, false, false] rfl rfl (take_ofW HT_.out HW_.out (by kernel_rfl)) (fun _ _ _ h => h) (Or.inl ⟨by rfl, ?_⟩) hHeld ?_ ?_
                    rotate_left
                    · rintro w' ⟨s0, s1, s2, s3, s4, s5, s6, s7, s8, s9, s10, s11, s12, s13, s14, s15, s16, s17, s18, s19, s20, s21, s22, s23, s24, s25, s26, s27⟩
                      go_simp
                      with_reducible rfl
                    rotate_left
                    · simp only [Act.put, List.setIfInBounds_toArray, List.set_cons_zero, List.set_cons_succ, i64_w, i32_w]
                      rfl
                    refine pure_ (i := 8) (N := some 34) (v := ?_) (a' := ?_) #[true, true, true, true, true, true, true, true, true, false, false, false] rfl rfl (any_of HT_.out (by kernel_rfl)) (fun _ _ _ h => h) (Or.inl ⟨by rfl, ?_⟩) ?_ ?_
                    rotate_left
                    · intro w'
                      go_simp
                      with_reducible rfl
                    rotate_left
                    · simp only [Act.put, List.setIfInBounds_toArray, List.set_cons_zero, List.set_cons_succ, i64_w, i32_w]
                      rfl
                    refine take_ (i := 9) (N := some 35) (v := ?_) (a' := ?_) #[true, true, true, true, true, true, true, true, true, true, false, false] rfl rfl (take_ofW HT_.out HW_.out (by kernel_rfl)) (fun _ _ _ h => h) (Or.inl ⟨by rfl, ?_⟩) hHeld ?_ ?_
                    rotate_left
                    · rintro w' ⟨s0, s1, s2, s3, s4, s5, s6, s7, s8, s9, s10, s11, s12, s13, s14, s15, s16, s17, s18, s19, s20, s21, s22, s23, s24, s25, s26, s27⟩
                      go_simp
                      with_reducible rfl
                    rotate_left
                    · simp only [Act.put, List.setIfInBounds_toArray, List.set_cons_zero, List.set_cons_succ, i64_w, i32_w]
                      rfl
                    refine one_ (i := 10) (N := some 36) #[true, true, true, true, true, true, true, true, true, true, true, false] rfl rfl (one_of HT_.out (by kernel_rfl)) (by decide) (fun K hK => ?_)
                    refine goes_ Tryd.func19 (by kernel_rfl) rfl #[.agg #[.int .i64 ((rd_T40 l0_6 x5_2).f0), .string ((rd_T40 l0_6 x5_2).f1), .string ((rd_T40 l0_6 x5_2).f2), .int .i64 ((rd_T40 l0_6 x5_2).f3), .int .i64 ((rd_T40 l0_6 x5_2).f4), .bool ((rd_T40 l0_6 x5_2).f5), .slice A311_6 ((rd_T40 l0_6 x5_2).f6).length c311_6], .agg #[.int .i64 ((rd_T40 l1_6 x5_2).f0), .string ((rd_T40 l1_6 x5_2).f1), .string ((rd_T40 l1_6 x5_2).f2), .int .i64 ((rd_T40 l1_6 x5_2).f3), .int .i64 ((rd_T40 l1_6 x5_2).f4), .bool ((rd_T40 l1_6 x5_2).f5), .slice A312_6 ((rd_T40 l1_6 x5_2).f6).length c312_6]] (by rfl) rfl rfl (by (try simp only [List.map_toArray, List.map_cons, List.map_nil]); first | done | rfl | (simp only [List.length_drop, List.length_take]; rfl)) ?_
                    with_reducible refine (ih k2 (by have := HJ2.out; have := HK2.out; omega) ((rd_T40 l0_6 x5_2).f0) ((rd_T40 l0_6 x5_2).f1) ((rd_T40 l0_6 x5_2).f2) ((rd_T40 l0_6 x5_2).f3) ((rd_T40 l0_6 x5_2).f4) ((rd_T40 l0_6 x5_2).f5) _ _ ((rd_T40 l0_6 x5_2).f6) ((rd_T40 l1_6 x5_2).f0) ((rd_T40 l1_6 x5_2).f1) ((rd_T40 l1_6 x5_2).f2) ((rd_T40 l1_6 x5_2).f3) ((rd_T40 l1_6 x5_2).f4) ((rd_T40 l1_6 x5_2).f5) _ _ ((rd_T40 l1_6 x5_2).f6) true _ ?side1 ?side2 ?side3 ?side4 A22.out).mono ?_
                    (case side1 => repeat (first | exact (Kd.C_below HR311_6.out HB.out) | (with_reducible refine Kd.C_alloc ?_ _) | (with_reducible refine Kd.C_drewN ?_ _) | (with_reducible refine Kd.C_drew ?_)))
                    (case side2 => exact HC311_6.out)
                    (case side3 => repeat (first | exact (Kd.C_below HR312_6.out HB.out) | (with_reducible refine Kd.C_alloc ?_ _) | (with_reducible refine Kd.C_drewN ?_ _) | (with_reducible refine Kd.C_drew ?_)))
                    (case side4 => exact HC312_6.out)
                    rintro e w27 ⟨rfl, hb⟩
                    refine ⟨_, rfl, ?_⟩
                    have n0_ := Aside0.mk (blk_below (g := gb308) (o := .cells #[.int .i64 a0_0, .string a0_1, .string a0_2, .int .i64 a0_3, .int .i64 a0_4, .bool a0_5, .slice (some ad311) l0_6.length c0_6] 40 (0, 0)) (by (with_reducible repeat (first | refine blk_drewN ?_ _ | refine blk_drew ?_ | refine blk_alloc ?_ _)); exact BK308.out) hb)
                    have n1_ := Aside0.mk (blk_below (g := gb309) (o := .cells #[.int .i64 a1_0, .string a1_1, .string a1_2, .int .i64 a1_3, .int .i64 a1_4, .bool a1_5, .slice (some ad312) l1_6.length c1_6] 40 (0, 0)) (by (with_reducible repeat (first | refine blk_drewN ?_ _ | refine blk_drew ?_ | refine blk_alloc ?_ _)); exact BK309.out) hb)
                    have n2_ := Aside0.mk (below_step (by repeat (first | (with_reducible first | exact HB.out | apply below_alloc | apply pw_below_drewN | apply below_drew1 | refine below_set ?_ GE308.out | refine below_set ?_ GE309.out) | exact HB.out)) hb)
                    clear BK308
                    clear BK309
                    clear HB
                    have BK308 := n0_
                    have BK309 := n1_
                    have HB := n2_
                    clear n0_ n1_ n2_
                    (try clear hb)
                    (try clear hb2)
                    (try clear hk)
                    (try clear hi)
                    refine hK.out _ _ ⟨(blk_cell BK308.out 0).trans rfl, (blk_cell BK308.out 1).trans rfl, (blk_cell BK308.out 2).trans rfl, (blk_cell BK308.out 3).trans rfl, (blk_cell BK308.out 4).trans rfl, (blk_cell BK308.out 5).trans rfl, (blk_cell BK308.out 6).trans rfl, (blk_cell BK309.out 0).trans rfl, (blk_cell BK309.out 1).trans rfl, (blk_cell BK309.out 2).trans rfl, (blk_cell BK309.out 3).trans rfl, (blk_cell BK309.out 4).trans rfl, (blk_cell BK309.out 5).trans rfl, (blk_cell BK309.out 6).trans rfl, ((HB.out.cell (World.block_lt_of_cell? w _ hw311_0)).trans hw311_0), ((HB.out.cell (World.block_lt_of_cell? w _ hw311_1)).trans hw311_1), ((HB.out.cell (World.block_lt_of_cell? w _ hw311_2)).trans hw311_2), ((HB.out.cell (World.block_lt_of_cell? w _ hw311_3)).trans hw311_3), ((HB.out.cell (World.block_lt_of_cell? w _ hw311_4)).trans hw311_4), ((HB.out.cell (World.block_lt_of_cell? w _ hw311_5)).trans hw311_5), ((HB.out.cell (World.block_lt_of_cell? w _ hw311_6)).trans hw311_6), ((HB.out.cell (World.block_lt_of_cell? w _ hw312_0)).trans hw312_0), ((HB.out.cell (World.block_lt_of_cell? w _ hw312_1)).trans hw312_1), ((HB.out.cell (World.block_lt_of_cell? w _ hw312_2)).trans hw312_2), ((HB.out.cell (World.block_lt_of_cell? w _ hw312_3)).trans hw312_3), ((HB.out.cell (World.block_lt_of_cell? w _ hw312_4)).trans hw312_4), ((HB.out.cell (World.block_lt_of_cell? w _ hw312_5)).trans hw312_5), ((HB.out.cell (World.block_lt_of_cell? w _ hw312_6)).trans hw312_6)⟩ (fun hHeld => ?_)
                    clear hK K
                    refine norm_ (a' := ?_) ?_ ?_
                    rotate_left
                    · show Act.put _ (some 36) _ = _
                      simp only [Act.put, List.setIfInBounds_toArray, List.set_cons_zero, List.set_cons_succ, i64_w, i32_w]
                      rfl
                    refine pure_ (i := 11) (N := some 37) (v := ?_) (a' := ?_) #[true, true, true, true, true, true, true, true, true, true, true, true] rfl rfl (any_of HT_.out (by kernel_rfl)) (fun _ _ _ h => h) (Or.inl ⟨by rfl, ?_⟩) ?_ ?_
                    rotate_left
                    · intro w'
                      go_simp
                      with_reducible rfl
                    rotate_left
                    · simp only [Act.put, List.setIfInBounds_toArray, List.set_cons_zero, List.set_cons_succ, i64_w, i32_w]
                      rfl
                    refine done_ (done_of HT_.out (by kernel_rfl)) ?_
                    try go_wp2
                    go_roundg k2
                    case measure => have := HJ2.out; have := HK2.out; omega
                    case rel => exact ⟨(wrap64 (x5_2 + 1)), (by first | rfl | (simp; done) | (simp [*]; done)), H', ⟨by have := HJ2.out; have := HK2.out; omega⟩, ⟨by (with_reducible repeat (first | refine blk_drewN ?_ _ | refine blk_drew ?_ | refine blk_alloc ?_ _)); exact BK308.out⟩, ⟨by (with_reducible repeat (first | refine blk_drewN ?_ _ | refine blk_drew ?_ | refine blk_alloc ?_ _)); exact BK309.out⟩, ⟨by repeat (first | (with_reducible first | exact HB.out | apply below_alloc | apply pw_below_drewN | apply below_drew1 | refine below_set ?_ GE308.out | refine below_set ?_ GE309.out) | exact HB.out)⟩⟩
                  · replace c23 := Bool.eq_false_iff.mpr c23
                    subst c23
                    have H1 : (some false) = some r := by rw [if_neg (show ¬ (false = true) by decide)] at H; exact H
                    clear H
                    have H := H1
                    clear H1
                    obtain rfl := Option.some.inj H
                    have hnb28 := NB308_309.out
                    have hnc28 := NB309_308.out
                    have hcz29_0 : wr.cell? ⟨gb308, 0, none⟩ = some (.int .i64 a0_0) := (blk_cell BK308.out 0).trans rfl
                    have hcz29_1 : wr.cell? ⟨gb308, 1, none⟩ = some (.string a0_1) := (blk_cell BK308.out 1).trans rfl
                    have hcz29_2 : wr.cell? ⟨gb308, 2, none⟩ = some (.string a0_2) := (blk_cell BK308.out 2).trans rfl
                    have hcz29_3 : wr.cell? ⟨gb308, 3, none⟩ = some (.int .i64 a0_3) := (blk_cell BK308.out 3).trans rfl
                    have hcz29_4 : wr.cell? ⟨gb308, 4, none⟩ = some (.int .i64 a0_4) := (blk_cell BK308.out 4).trans rfl
                    have hcz29_5 : wr.cell? ⟨gb308, 5, none⟩ = some (.bool a0_5) := (blk_cell BK308.out 5).trans rfl
                    have hcz29_6 : wr.cell? ⟨gb308, 6, none⟩ = some (.slice A0_6 l0_6.length c0_6) := (blk_cell BK308.out 6).trans rfl
                    have hfz29_0 := blk_frozen BK308.out 0
                    have hfz29_1 := blk_frozen BK308.out 1
                    have hfz29_2 := blk_frozen BK308.out 2
                    have hfz29_3 := blk_frozen BK308.out 3
                    have hfz29_4 := blk_frozen BK308.out 4
                    have hfz29_5 := blk_frozen BK308.out 5
                    have hfz29_6 := blk_frozen BK308.out 6
                    try go_wp2
                    have n0_ := Aside0.mk (blk_drew BK308.out)
                    have n1_ := Aside0.mk (blk_drew BK309.out)
                    have n2_ := Aside0.mk (below_drew1 HB.out)
                    clear BK308
                    clear BK309
                    clear HB
                    have BK308 := n0_
                    have BK309 := n1_
                    have HB := n2_
                    clear n0_ n1_ n2_
                    have p311 : 0 ≤ (x5_2 : Int) := of_decide_eq_true (by first | (with_reducible assumption) | assumption)
                    have q311 : x5_2 < (l0_6.length : Int) := of_decide_eq_true (by first | (with_reducible assumption) | assumption)
                    obtain ⟨ad311, A311_6, c311_6, e311, hx311_0, hx311_1, hx311_2, hx311_3, hx311_4, hx311_5, hx311_6, hl311_6, hi311_6⟩ := at_T40 HR0_6.out x5_2 p311 q311
                    have hw311_6 := hx311_6
                    have hw311_5 := hx311_5
                    have hw311_4 := hx311_4
                    have hw311_3 := hx311_3
                    have hw311_2 := hx311_2
                    have hw311_1 := hx311_1
                    have hw311_0 := hx311_0
                    cases e311
                    replace hx311_0 := (HB.out.cell (World.block_lt_of_cell? w _ hx311_0)).trans hx311_0
                    replace hx311_1 := (HB.out.cell (World.block_lt_of_cell? w _ hx311_1)).trans hx311_1
                    replace hx311_2 := (HB.out.cell (World.block_lt_of_cell? w _ hx311_2)).trans hx311_2
                    replace hx311_3 := (HB.out.cell (World.block_lt_of_cell? w _ hx311_3)).trans hx311_3
                    replace hx311_4 := (HB.out.cell (World.block_lt_of_cell? w _ hx311_4)).trans hx311_4
                    replace hx311_5 := (HB.out.cell (World.block_lt_of_cell? w _ hx311_5)).trans hx311_5
                    replace hx311_6 := (HB.out.cell (World.block_lt_of_cell? w _ hx311_6)).trans hx311_6
                    have HR311_6 := Aside0.mk hi311_6
                    have HC311_6 := Aside0.mk hl311_6
                    clear hi311_6 hl311_6
                    replace p311 := eq_true p311
                    replace q311 := eq_true q311
                    have p312 : 0 ≤ (x5_2 : Int) := of_decide_eq_true (by first | (with_reducible assumption) | assumption)
                    have q312 : x5_2 < (l1_6.length : Int) := of_decide_eq_true (by first | (with_reducible assumption) | assumption)
                    obtain ⟨ad312, A312_6, c312_6, e312, hx312_0, hx312_1, hx312_2, hx312_3, hx312_4, hx312_5, hx312_6, hl312_6, hi312_6⟩ := at_T40 HR1_6.out x5_2 p312 q312
                    have hw312_6 := hx312_6
                    have hw312_5 := hx312_5
                    have hw312_4 := hx312_4
                    have hw312_3 := hx312_3
                    have hw312_2 := hx312_2
                    have hw312_1 := hx312_1
                    have hw312_0 := hx312_0
                    cases e312
                    replace hx312_0 := (HB.out.cell (World.block_lt_of_cell? w _ hx312_0)).trans hx312_0
                    replace hx312_1 := (HB.out.cell (World.block_lt_of_cell? w _ hx312_1)).trans hx312_1
                    replace hx312_2 := (HB.out.cell (World.block_lt_of_cell? w _ hx312_2)).trans hx312_2
                    replace hx312_3 := (HB.out.cell (World.block_lt_of_cell? w _ hx312_3)).trans hx312_3
                    replace hx312_4 := (HB.out.cell (World.block_lt_of_cell? w _ hx312_4)).trans hx312_4
                    replace hx312_5 := (HB.out.cell (World.block_lt_of_cell? w _ hx312_5)).trans hx312_5
                    replace hx312_6 := (HB.out.cell (World.block_lt_of_cell? w _ hx312_6)).trans hx312_6
                    have HR312_6 := Aside0.mk hi312_6
                    have HC312_6 := Aside0.mk hl312_6
                    clear hi312_6 hl312_6
                    replace p312 := eq_true p312
                    replace q312 := eq_true q312
                    refine start_ (n := 12) (S := fun w' => w'.cell? ⟨gb308, 0, none⟩ = some (.int .i64 a0_0) ∧ w'.cell? ⟨gb308, 1, none⟩ = some (.string a0_1) ∧ w'.cell? ⟨gb308, 2, none⟩ = some (.string a0_2) ∧ w'.cell? ⟨gb308, 3, none⟩ = some (.int .i64 a0_3) ∧ w'.cell? ⟨gb308, 4, none⟩ = some (.int .i64 a0_4) ∧ w'.cell? ⟨gb308, 5, none⟩ = some (.bool a0_5) ∧ w'.cell? ⟨gb308, 6, none⟩ = some (.slice (some ad311) l0_6.length c0_6) ∧ w'.cell? ⟨gb309, 0, none⟩ = some (.int .i64 a1_0) ∧ w'.cell? ⟨gb309, 1, none⟩ = some (.string a1_1) ∧ w'.cell? ⟨gb309, 2, none⟩ = some (.string a1_2) ∧ w'.cell? ⟨gb309, 3, none⟩ = some (.int .i64 a1_3) ∧ w'.cell? ⟨gb309, 4, none⟩ = some (.int .i64 a1_4) ∧ w'.cell? ⟨gb309, 5, none⟩ = some (.bool a1_5) ∧ w'.cell? ⟨gb309, 6, none⟩ = some (.slice (some ad312) l1_6.length c1_6) ∧ w'.cell? (ad311.add ((x5_2).toNat * 7)) = some (.int .i64 ((rd_T40 l0_6 x5_2).f0)) ∧ w'.cell? ⟨(ad311.add ((x5_2).toNat * 7)).block, (ad311.add ((x5_2).toNat * 7)).off + 1, none⟩ = some (.string ((rd_T40 l0_6 x5_2).f1)) ∧ w'.cell? ⟨(ad311.add ((x5_2).toNat * 7)).block, (ad311.add ((x5_2).toNat * 7)).off + 2, none⟩ = some (.string ((rd_T40 l0_6 x5_2).f2)) ∧ w'.cell? ⟨(ad311.add ((x5_2).toNat * 7)).block, (ad311.add ((x5_2).toNat * 7)).off + 3, none⟩ = some (.int .i64 ((rd_T40 l0_6 x5_2).f3)) ∧ w'.cell? ⟨(ad311.add ((x5_2).toNat * 7)).block, (ad311.add ((x5_2).toNat * 7)).off + 4, none⟩ = some (.int .i64 ((rd_T40 l0_6 x5_2).f4)) ∧ w'.cell? ⟨(ad311.add ((x5_2).toNat * 7)).block, (ad311.add ((x5_2).toNat * 7)).off + 5, none⟩ = some (.bool ((rd_T40 l0_6 x5_2).f5)) ∧ w'.cell? ⟨(ad311.add ((x5_2).toNat * 7)).block, (ad311.add ((x5_2).toNat * 7)).off + 6, none⟩ = some (.slice A311_6 ((rd_T40 l0_6 x5_2).f6).length c311_6) ∧ w'.cell? (ad312.add ((x5_2).toNat * 7)) = some (.int .i64 ((rd_T40 l1_6 x5_2).f0)) ∧ w'.cell? ⟨(ad312.add ((x5_2).toNat * 7)).block, (ad312.add ((x5_2).toNat * 7)).off + 1, none⟩ = some (.string ((rd_T40 l1_6 x5_2).f1)) ∧ w'.cell? ⟨(ad312.add ((x5_2).toNat * 7)).block, (ad312.add ((x5_2).toNat * 7)).off + 2, none⟩ = some (.string ((rd_T40 l1_6 x5_2).f2)) ∧ w'.cell? ⟨(ad312.add ((x5_2).toNat * 7)).block, (ad312.add ((x5_2).toNat * 7)).off + 3, none⟩ = some (.int .i64 ((rd_T40 l1_6 x5_2).f3)) ∧ w'.cell? ⟨(ad312.add ((x5_2).toNat * 7)).block, (ad312.add ((x5_2).toNat * 7)).off + 4, none⟩ = some (.int .i64 ((rd_T40 l1_6 x5_2).f4)) ∧ w'.cell? ⟨(ad312.add ((x5_2).toNat * 7)).block, (ad312.add ((x5_2).toNat * 7)).off + 5, none⟩ = some (.bool ((rd_T40 l1_6 x5_2).f5)) ∧ w'.cell? ⟨(ad312.add ((x5_2).toNat * 7)).block, (ad312.add ((x5_2).toNat * 7)).off + 6, none⟩ = some (.slice A312_6 ((rd_T40 l1_6 x5_2).f6).length c312_6)) (ds := []) #[false, false, false, false, false, false, false, false, false, false, false, false] (by kernel_rfl) rfl rfl ⟨(blk_cell BK308.out 0).trans rfl, (blk_cell BK308.out 1).trans rfl, (blk_cell BK308.out 2).trans rfl, (blk_cell BK308.out 3).trans rfl, (blk_cell BK308.out 4).trans rfl, (blk_cell BK308.out 5).trans rfl, (blk_cell BK308.out 6).trans rfl, (blk_cell BK309.out 0).trans rfl, (blk_cell BK309.out 1).trans rfl, (blk_cell BK309.out 2).trans rfl, (blk_cell BK309.out 3).trans rfl, (blk_cell BK309.out 4).trans rfl, (blk_cell BK309.out 5).trans rfl, (blk_cell BK309.out 6).trans rfl, ((HB.out.cell (World.block_lt_of_cell? w _ hw311_0)).trans hw311_0), ((HB.out.cell (World.block_lt_of_cell? w _ hw311_1)).trans hw311_1), ((HB.out.cell (World.block_lt_of_cell? w _ hw311_2)).trans hw311_2), ((HB.out.cell (World.block_lt_of_cell? w _ hw311_3)).trans hw311_3), ((HB.out.cell (World.block_lt_of_cell? w _ hw311_4)).trans hw311_4), ((HB.out.cell (World.block_lt_of_cell? w _ hw311_5)).trans hw311_5), ((HB.out.cell (World.block_lt_of_cell? w _ hw311_6)).trans hw311_6), ((HB.out.cell (World.block_lt_of_cell? w _ hw312_0)).trans hw312_0), ((HB.out.cell (World.block_lt_of_cell? w _ hw312_1)).trans hw312_1), ((HB.out.cell (World.block_lt_of_cell? w _ hw312_2)).trans hw312_2), ((HB.out.cell (World.block_lt_of_cell? w _ hw312_3)).trans hw312_3), ((HB.out.cell (World.block_lt_of_cell? w _ hw312_4)).trans hw312_4), ((HB.out.cell (World.block_lt_of_cell? w _ hw312_5)).trans hw312_5), ((HB.out.cell (World.block_lt_of_cell? w _ hw312_6)).trans hw312_6)⟩ (fun hHeld => ?_); refine with_tabW incipitref06_Same.tab6 incipitref06_Same.bits6 (fun HT_ HW_ => ?_)
                    generalize wr.drew = w30 at BK308 BK309 HB HR311_6 HR312_6 hx311_0 hx311_1 hx311_2 hx311_3 hx311_4 hx311_5 hx311_6 hx312_0 hx312_1 hx312_2 hx312_3 hx312_4 hx312_5 hx312_6 hHeld ⊢
                    refine pure_ (i := 0) (N := some 26) (v := ?_) (a' := ?_) #[true, false, false, false, false, false, false, false, false, false, false, false] rfl rfl (any_of HT_.out (by kernel_rfl)) (fun _ _ _ h => h) (Or.inl ⟨by rfl, ?_⟩) ?_ ?_
                    rotate_left
                    · intro w'
                      go_simp
                      with_reducible rfl
                    rotate_left
                    · simp only [Act.put, List.setIfInBounds_toArray, List.set_cons_zero, List.set_cons_succ, i64_w, i32_w]
                      rfl
                    refine pure_ (i := 2) (N := some 28) (v := ?_) (a' := ?_) #[true, false, true, false, false, false, false, false, false, false, false, false] rfl rfl (any_of HT_.out (by kernel_rfl)) (fun _ _ _ h => h) (Or.inl ⟨by rfl, ?_⟩) ?_ ?_
                    rotate_left
                    · intro w'
                      go_simp
                      with_reducible rfl
                    rotate_left
                    · simp only [Act.put, List.setIfInBounds_toArray, List.set_cons_zero, List.set_cons_succ, i64_w, i32_w]
                      rfl
                    refine pure_ (i := 5) (N := some 31) (v := ?_) (a' := ?_) #[true, false, true, false, false, true, false, false, false, false, false, false] rfl rfl (any_of HT_.out (by kernel_rfl)) (fun _ _ _ h => h) (Or.inl ⟨by rfl, ?_⟩) ?_ ?_
                    rotate_left
                    · intro w'
                      go_simp
                      with_reducible rfl
                    rotate_left
                    · simp only [Act.put, List.setIfInBounds_toArray, List.set_cons_zero, List.set_cons_succ, i64_w, i32_w]
                      rfl
                    refine pure_ (i := 7) (N := some 33) (v := ?_) (a' := ?_) #[true, false, true, false, false, true, false, true, false, false, false, false] rfl rfl (any_of HT_.out (by kernel_rfl)) (fun _ _ _ h => h) (Or.inl ⟨by rfl, ?_⟩) ?_ ?_
                    rotate_left
                    · intro w'
                      go_simp
                      with_reducible rfl
                    rotate_left
                    · simp only [Act.put, List.setIfInBounds_toArray, List.set_cons_zero, List.set_cons_succ, i64_w, i32_w]
                      rfl
                    refine take_ (i := 1) (N := some 27) (v := ?_) (a' := ?_) #[true, true, true, false, false, true, false, true, false, false, false, false] rfl rfl (take_ofW HT_.out HW_.out (by kernel_rfl)) (fun _ _ _ h => h) (Or.inl ⟨by rfl, ?_⟩) hHeld ?_ ?_
                    rotate_left
                    · rintro w' ⟨s0, s1, s2, s3, s4, s5, s6, s7, s8, s9, s10, s11, s12, s13, s14, s15, s16, s17, s18, s19, s20, s21, s22, s23, s24, s25, s26, s27⟩
                      go_simp
                      with_reducible rfl
                    rotate_left
                    · simp only [Act.put, List.setIfInBounds_toArray, List.set_cons_zero, List.set_cons_succ, i64_w, i32_w]
                      rfl
                    refine pure_ (i := 3) (N := some 29) (v := ?_) (a' := ?_) #[true, true, true, true, false, true, false, true, false, false, false, false] rfl rfl (any_of HT_.out (by kernel_rfl)) (fun _ _ _ h => h) (Or.inl ⟨by rfl, ?_⟩) ?_ ?_
                    rotate_left
                    · intro w'
                      go_simp
                      with_reducible rfl
                    rotate_left
                    · simp only [Act.put, List.setIfInBounds_toArray, List.set_cons_zero, List.set_cons_succ, i64_w, i32_w]
                      rfl
                    refine take_ (i := 4) (N := some 30) (v := ?_) (a' := ?_) #[true, true, true, true, true, true, false, true, false, false, false, false] rfl rfl (take_ofW HT_.out HW_.out (by kernel_rfl)) (fun _ _ _ h => h) (Or.inl ⟨by rfl, ?_⟩) hHeld ?_ ?_
                    rotate_left
                    · rintro w' ⟨s0, s1, s2, s3, s4, s5, s6, s7, s8, s9, s10, s11, s12, s13, s14, s15, s16, s17, s18, s19, s20, s21, s22, s23, s24, s25, s26, s27⟩
                      go_simp
                      with_reducible rfl
                    rotate_left
                    · simp only [Act.put, List.setIfInBounds_toArray, List.set_cons_zero, List.set_cons_succ, i64_w, i32_w]
                      rfl
                    refine take_ (i := 6) (N := some 32) (v := ?_) (a' := ?_) #[true, true, true, true, true, true, true, true, false, false, false, false] rfl rfl (take_ofW HT_.out HW_.out (by kernel_rfl)) (fun _ _ _ h => h) (Or.inl ⟨by rfl, ?_⟩) hHeld ?_ ?_
                    rotate_left
                    · rintro w' ⟨s0, s1, s2, s3, s4, s5, s6, s7, s8, s9, s10, s11, s12, s13, s14, s15, s16, s17, s18, s19, s20, s21, s22, s23, s24, s25, s26, s27⟩
                      go_simp
                      with_reducible rfl
                    rotate_left
                    · simp only [Act.put, List.setIfInBounds_toArray, List.set_cons_zero, List.set_cons_succ, i64_w, i32_w]
                      rfl
                    refine pure_ (i := 8) (N := some 34) (v := ?_) (a' := ?_) #[true, true, true, true, true, true, true, true, true, false, false, false] rfl rfl (any_of HT_.out (by kernel_rfl)) (fun _ _ _ h => h) (Or.inl ⟨by rfl, ?_⟩) ?_ ?_
                    rotate_left
                    · intro w'
                      go_simp
                      with_reducible rfl
                    rotate_left
                    · simp only [Act.put, List.setIfInBounds_toArray, List.set_cons_zero, List.set_cons_succ, i64_w, i32_w]
                      rfl
                    refine take_ (i := 9) (N := some 35) (v := ?_) (a' := ?_) #[true, true, true, true, true, true, true, true, true, true, false, false] rfl rfl (take_ofW HT_.out HW_.out (by kernel_rfl)) (fun _ _ _ h => h) (Or.inl ⟨by rfl, ?_⟩) hHeld ?_ ?_
                    rotate_left
                    · rintro w' ⟨s0, s1, s2, s3, s4, s5, s6, s7, s8, s9, s10, s11, s12, s13, s14, s15, s16, s17, s18, s19, s20, s21, s22, s23, s24, s25, s26, s27⟩
                      go_simp
                      with_reducible rfl
                    rotate_left
                    · simp only [Act.put, List.setIfInBounds_toArray, List.set_cons_zero, List.set_cons_succ, i64_w, i32_w]
                      rfl
                    refine one_ (i := 10) (N := some 36) #[true, true, true, true, true, true, true, true, true, true, true, false] rfl rfl (one_of HT_.out (by kernel_rfl)) (by decide) (fun K hK => ?_)
                    refine goes_ Tryd.func19 (by kernel_rfl) rfl #[.agg #[.int .i64 ((rd_T40 l0_6 x5_2).f0), .string ((rd_T40 l0_6 x5_2).f1), .string ((rd_T40 l0_6 x5_2).f2), .int .i64 ((rd_T40 l0_6 x5_2).f3), .int .i64 ((rd_T40 l0_6 x5_2).f4), .bool ((rd_T40 l0_6 x5_2).f5), .slice A311_6 ((rd_T40 l0_6 x5_2).f6).length c311_6], .agg #[.int .i64 ((rd_T40 l1_6 x5_2).f0), .string ((rd_T40 l1_6 x5_2).f1), .string ((rd_T40 l1_6 x5_2).f2), .int .i64 ((rd_T40 l1_6 x5_2).f3), .int .i64 ((rd_T40 l1_6 x5_2).f4), .bool ((rd_T40 l1_6 x5_2).f5), .slice A312_6 ((rd_T40 l1_6 x5_2).f6).length c312_6]] (by rfl) rfl rfl (by (try simp only [List.map_toArray, List.map_cons, List.map_nil]); first | done | rfl | (simp only [List.length_drop, List.length_take]; rfl)) ?_
                    with_reducible refine (ih k2 (by have := HJ2.out; have := HK2.out; omega) ((rd_T40 l0_6 x5_2).f0) ((rd_T40 l0_6 x5_2).f1) ((rd_T40 l0_6 x5_2).f2) ((rd_T40 l0_6 x5_2).f3) ((rd_T40 l0_6 x5_2).f4) ((rd_T40 l0_6 x5_2).f5) _ _ ((rd_T40 l0_6 x5_2).f6) ((rd_T40 l1_6 x5_2).f0) ((rd_T40 l1_6 x5_2).f1) ((rd_T40 l1_6 x5_2).f2) ((rd_T40 l1_6 x5_2).f3) ((rd_T40 l1_6 x5_2).f4) ((rd_T40 l1_6 x5_2).f5) _ _ ((rd_T40 l1_6 x5_2).f6) false _ ?side1 ?side2 ?side3 ?side4 A22.out).mono ?_
                    (case side1 => repeat (first | exact (Kd.C_below HR311_6.out HB.out) | (with_reducible refine Kd.C_alloc ?_ _) | (with_reducible refine Kd.C_drewN ?_ _) | (with_reducible refine Kd.C_drew ?_)))
                    (case side2 => exact HC311_6.out)
                    (case side3 => repeat (first | exact (Kd.C_below HR312_6.out HB.out) | (with_reducible refine Kd.C_alloc ?_ _) | (with_reducible refine Kd.C_drewN ?_ _) | (with_reducible refine Kd.C_drew ?_)))
                    (case side4 => exact HC312_6.out)
                    rintro e w31 ⟨rfl, hb⟩
                    refine ⟨_, rfl, ?_⟩
                    have n0_ := Aside0.mk (blk_below (g := gb308) (o := .cells #[.int .i64 a0_0, .string a0_1, .string a0_2, .int .i64 a0_3, .int .i64 a0_4, .bool a0_5, .slice (some ad311) l0_6.length c0_6] 40 (0, 0)) (by (with_reducible repeat (first | refine blk_drewN ?_ _ | refine blk_drew ?_ | refine blk_alloc ?_ _)); exact BK308.out) hb)
                    have n1_ := Aside0.mk (blk_below (g := gb309) (o := .cells #[.int .i64 a1_0, .string a1_1, .string a1_2, .int .i64 a1_3, .int .i64 a1_4, .bool a1_5, .slice (some ad312) l1_6.length c1_6] 40 (0, 0)) (by (with_reducible repeat (first | refine blk_drewN ?_ _ | refine blk_drew ?_ | refine blk_alloc ?_ _)); exact BK309.out) hb)
                    have n2_ := Aside0.mk (below_step (by repeat (first | (with_reducible first | exact HB.out | apply below_alloc | apply pw_below_drewN | apply below_drew1 | refine below_set ?_ GE308.out | refine below_set ?_ GE309.out) | exact HB.out)) hb)
                    clear BK308
                    clear BK309
                    clear HB
                    have BK308 := n0_
                    have BK309 := n1_
                    have HB := n2_
                    clear n0_ n1_ n2_
                    (try clear hb)
                    (try clear hb2)
                    (try clear hk)
                    (try clear hi)
                    refine hK.out _ _ ⟨(blk_cell BK308.out 0).trans rfl, (blk_cell BK308.out 1).trans rfl, (blk_cell BK308.out 2).trans rfl, (blk_cell BK308.out 3).trans rfl, (blk_cell BK308.out 4).trans rfl, (blk_cell BK308.out 5).trans rfl, (blk_cell BK308.out 6).trans rfl, (blk_cell BK309.out 0).trans rfl, (blk_cell BK309.out 1).trans rfl, (blk_cell BK309.out 2).trans rfl, (blk_cell BK309.out 3).trans rfl, (blk_cell BK309.out 4).trans rfl, (blk_cell BK309.out 5).trans rfl, (blk_cell BK309.out 6).trans rfl, ((HB.out.cell (World.block_lt_of_cell? w _ hw311_0)).trans hw311_0), ((HB.out.cell (World.block_lt_of_cell? w _ hw311_1)).trans hw311_1), ((HB.out.cell (World.block_lt_of_cell? w _ hw311_2)).trans hw311_2), ((HB.out.cell (World.block_lt_of_cell? w _ hw311_3)).trans hw311_3), ((HB.out.cell (World.block_lt_of_cell? w _ hw311_4)).trans hw311_4), ((HB.out.cell (World.block_lt_of_cell? w _ hw311_5)).trans hw311_5), ((HB.out.cell (World.block_lt_of_cell? w _ hw311_6)).trans hw311_6), ((HB.out.cell (World.block_lt_of_cell? w _ hw312_0)).trans hw312_0), ((HB.out.cell (World.block_lt_of_cell? w _ hw312_1)).trans hw312_1), ((HB.out.cell (World.block_lt_of_cell? w _ hw312_2)).trans hw312_2), ((HB.out.cell (World.block_lt_of_cell? w _ hw312_3)).trans hw312_3), ((HB.out.cell (World.block_lt_of_cell? w _ hw312_4)).trans hw312_4), ((HB.out.cell (World.block_lt_of_cell? w _ hw312_5)).trans hw312_5), ((HB.out.cell (World.block_lt_of_cell? w _ hw312_6)).trans hw312_6)⟩ (fun hHeld => ?_)
                    clear hK K
                    refine norm_ (a' := ?_) ?_ ?_
                    rotate_left
                    · show Act.put _ (some 36) _ = _
                      simp only [Act.put, List.setIfInBounds_toArray, List.set_cons_zero, List.set_cons_succ, i64_w, i32_w]
                      rfl
                    refine pure_ (i := 11) (N := some 37) (v := ?_) (a' := ?_) #[true, true, true, true, true, true, true, true, true, true, true, true] rfl rfl (any_of HT_.out (by kernel_rfl)) (fun _ _ _ h => h) (Or.inl ⟨by rfl, ?_⟩) ?_ ?_
                    rotate_left
                    · intro w'
                      go_simp
                      with_reducible rfl
                    rotate_left
                    · simp only [Act.put, List.setIfInBounds_toArray, List.set_cons_zero, List.set_cons_succ, i64_w, i32_w]
                      rfl
                    refine done_ (done_of HT_.out (by kernel_rfl)) ?_
                    try go_wp2
                    go_ret
                    exact ⟨by first | rfl | (simp [errW_none, errW_some] <;> rfl) | (simp [*, errW_none, errW_some] <;> rfl), by repeat (first | (with_reducible first | exact HB.out | apply below_alloc | apply pw_below_drewN | apply below_drew1 | refine below_set ?_ GE308.out | refine below_set ?_ GE309.out) | exact HB.out)⟩
                · rw [if_neg c21] at H
                  exact absurd H (by simp)
              · rw [if_neg c20] at H
                exact absurd H (by simp)
            · rw [if_neg c19] at H
              have c19b0 : decide (x5_2 < (l0_6.length : Int)) = false := decide_eq_false c19
              clear c19
              obtain rfl := Option.some.inj H
              have hnb32 := NB308_309.out
              have hnc32 := NB309_308.out
              have hcz33_0 : wr.cell? ⟨gb308, 0, none⟩ = some (.int .i64 a0_0) := (blk_cell BK308.out 0).trans rfl
              have hcz33_1 : wr.cell? ⟨gb308, 1, none⟩ = some (.string a0_1) := (blk_cell BK308.out 1).trans rfl
              have hcz33_2 : wr.cell? ⟨gb308, 2, none⟩ = some (.string a0_2) := (blk_cell BK308.out 2).trans rfl
              have hcz33_3 : wr.cell? ⟨gb308, 3, none⟩ = some (.int .i64 a0_3) := (blk_cell BK308.out 3).trans rfl
              have hcz33_4 : wr.cell? ⟨gb308, 4, none⟩ = some (.int .i64 a0_4) := (blk_cell BK308.out 4).trans rfl
              have hcz33_5 : wr.cell? ⟨gb308, 5, none⟩ = some (.bool a0_5) := (blk_cell BK308.out 5).trans rfl
              have hcz33_6 : wr.cell? ⟨gb308, 6, none⟩ = some (.slice A0_6 l0_6.length c0_6) := (blk_cell BK308.out 6).trans rfl
              have hfz33_0 := blk_frozen BK308.out 0
              have hfz33_1 := blk_frozen BK308.out 1
              have hfz33_2 := blk_frozen BK308.out 2
              have hfz33_3 := blk_frozen BK308.out 3
              have hfz33_4 := blk_frozen BK308.out 4
              have hfz33_5 := blk_frozen BK308.out 5
              have hfz33_6 := blk_frozen BK308.out 6
              go_wp2
              go_ret
              exact ⟨by first | rfl | (simp [errW_none, errW_some] <;> rfl) | (simp [*, errW_none, errW_some] <;> rfl), by repeat (first | (with_reducible first | exact HB.out | apply below_alloc | apply pw_below_drewN | apply below_drew1 | refine below_set ?_ GE308.out | refine below_set ?_ GE309.out) | exact HB.out)⟩

end Go.Proofs.YthbadcdiagcfkaaDoor.PA

namespace Go.Proofs.YthbadcdiagcfkaaDoor.Pl
open Go.RowKit Go.Proofs.YthbadcdiagcfkaaDoor.PA Go.Proofs.YthbadcdiagcfkaaDoorW.PrintWords
set_option linter.unusedVariables false

abbrev Nd := S40
/-- A number that an int holds. -/
def i64 (n : Int) : Prop := -9223372036854775808 ≤ n ∧ n ≤ 9223372036854775807
theorem rd_at {l : List Nd} {i : Nat} (hi : i < l.length) : rd_T40 l (i : Int) = l[i] := by
  unfold rd_T40
  rw [Int.toNat_natCast, List.getD_eq_getElem?_getD, List.getElem?_eq_getElem hi]
  rfl
end Go.Proofs.YthbadcdiagcfkaaDoor.Pl

namespace Go.Proofs.YthbadcdiagcfkaaDoor.Pl
open Go.RowKit Go.Proofs.YthbadcdiagcfkaaDoor.PA Go.Proofs.YthbadcdiagcfkaaDoorW.PrintWords
set_option linter.unusedVariables false

/-- A cell. -/
def cel (al : List Int) (hd : Bool) (j : Nat) (s : ByteArray) : Nd := ⟨12, s, ⟨#[]⟩, if (j : Int) < (al.length : Int) then rd al (j : Int) else 0, 0, hd, []⟩
def cls (al : List Int) (hd : Bool) : Nat → List ByteArray → List Nd
  | _, [] => []
  | j, s :: r => cel al hd j s :: cls al hd (j + 1) r
/-- A row. -/
def rwn (al : List Int) (i : Nat) (l : List ByteArray) : Nd := ⟨11, ⟨#[]⟩, ⟨#[]⟩, 0, 0, ((i : Int) == 0), cls al ((i : Int) == 0) 0 l⟩
def rws (al : List Int) : Nat → List (List ByteArray) → List Nd
  | _, [] => []
  | i, l :: r => rwn al i l :: rws al (i + 1) r
theorem cls_append (al : List Int) (hd : Bool) : ∀ (a b : List ByteArray) (j : Nat), cls al hd j (a ++ b) = cls al hd j a ++ cls al hd (j + a.length) b
  | [], b, j => rfl
  | s :: a, b, j => by rw [List.cons_append, cls, cls, cls_append al hd a b (j + 1), List.length_cons, List.cons_append, show j + 1 + a.length = j + (a.length + 1) by omega]
theorem rws_append (al : List Int) : ∀ (a b : List (List ByteArray)) (j : Nat), rws al j (a ++ b) = rws al j a ++ rws al (j + a.length) b
  | [], b, j => rfl
  | s :: a, b, j => by rw [List.cons_append, rws, rws, rws_append al a b (j + 1), List.length_cons, List.cons_append, show j + 1 + a.length = j + (a.length + 1) by omega]
theorem cls_next (al : List Int) (hd : Bool) {l : List ByteArray} {j : Nat} (h : j < l.length) : cls al hd 0 (l.take (j + 1)) = cls al hd 0 (l.take j) ++ [cel al hd j l[j]] := by
  rw [List.take_add_one, List.getElem?_eq_getElem h, cls_append, List.length_take, Nat.zero_add, Nat.min_eq_left (Nat.le_of_lt h)]
  rfl
theorem rws_next (al : List Int) {l : List (List ByteArray)} {i : Nat} (h : i < l.length) : rws al 0 (l.take (i + 1)) = rws al 0 (l.take i) ++ [rwn al i l[i]] := by
  rw [List.take_add_one, List.getElem?_eq_getElem h, rws_append, List.length_take, Nat.zero_add, Nat.min_eq_left (Nat.le_of_lt h)]
  rfl
theorem cls_len (al : List Int) (hd : Bool) : ∀ (l : List ByteArray) (j : Nat), (cls al hd j l).length = l.length
  | [], _ => rfl
  | s :: r, j => by rw [cls, List.length_cons, List.length_cons, cls_len al hd r (j + 1)]
theorem rws_len (al : List Int) : ∀ (l : List (List ByteArray)) (j : Nat), (rws al j l).length = l.length
  | [], _ => rfl
  | s :: r, j => by rw [rws, List.length_cons, List.length_cons, rws_len al r (j + 1)]
end Go.Proofs.YthbadcdiagcfkaaDoor.Pl

namespace Go.Proofs.YthbadcdiagcfkaaDoor.PA
open Go.RowKit Go.Proofs.YthbadcdiagcfkaaDoor.Pl Go.Proofs.YthbadcdiagcfkaaDoorW.PrintWords Go.Proofs.YthbadcdiagcfkaaDoorW.PrintLast Go.Proofs.YthbadcdiagcfkaaDoorW.PrintMore
set_option linter.unusedVariables false

abbrev tcs (k : Int) (hd : Bool) (v : Value) : Array Value := #[.int .i64 k, .string ⟨#[]⟩, .string ⟨#[]⟩, .int .i64 0, .int .i64 0, .bool hd, v]
abbrev RR (W : World) (base : Nat) (ok : Nat → Prop) (v : Value) (l : List Nd) : Prop := Kd.R k40 40 W base ok v l
structure BxAt (o : Nat) (k : Int) (hd : Bool) (v : Value) (w : World) : Prop where
  d0 : w.cell? ⟨o, 0, none⟩ = some (.int .i64 k)
  d1 : w.cell? ⟨o, 1, none⟩ = some (.string ⟨#[]⟩)
  d2 : w.cell? ⟨o, 2, none⟩ = some (.string ⟨#[]⟩)
  d3 : w.cell? ⟨o, 3, none⟩ = some (.int .i64 0)
  d4 : w.cell? ⟨o, 4, none⟩ = some (.int .i64 0)
  d5 : w.cell? ⟨o, 5, none⟩ = some (.bool hd)
  d6 : w.cell? ⟨o, 6, none⟩ = some v
  f6 : w.frozen? ⟨o, 6, none⟩ = false
theorem bxAt {o : Nat} {k : Int} {hd : Bool} {v : Value} {w : World} (h : w.heap[o]? = some (.cells (tcs k hd v) 40 (0, 0))) : BxAt o k hd v w := ⟨(Lib.cell_of_heap h 0).trans rfl, (Lib.cell_of_heap h 1).trans rfl, (Lib.cell_of_heap h 2).trans rfl, (Lib.cell_of_heap h 3).trans rfl, (Lib.cell_of_heap h 4).trans rfl, (Lib.cell_of_heap h 5).trans rfl, (Lib.cell_of_heap h 6).trans rfl, Lib.frozen_of_heap h 6⟩
/-- The table's box and what is in it, behind w. -/
structure Ot (w : World) (v : Value) (T : List Nd) (W : World) : Prop where
  bel : Below w.heap.size w W
  lt : w.heap.size + 2 ≤ W.heap.size
  b4 : W.heap[w.heap.size]? = some (.cells (tcs 0 false (.slice none 0 0)) 40 (0, 0))
  bx : W.heap[w.heap.size + 1]? = some (.cells (tcs 10 false v) 40 (0, 0))
  row : RR W w.heap.size (fun k => w.heap.size + 2 ≤ k) v T
/-- A row's box and what is in it, behind W0. -/
structure In (w W0 : World) (hd : Bool) (v : Value) (T : List Nd) (W : World) : Prop where
  bel : Below W0.heap.size W0 W
  lt : W0.heap.size + 1 ≤ W.heap.size
  bx : W.heap[W0.heap.size]? = some (.cells (tcs 11 hd v) 40 (0, 0))
  row : RR W w.heap.size (fun k => W0.heap.size + 1 ≤ k) v T
section
variable {w W0 W W' : World} {v v' : Value} {T T' : List Nd} {hd : Bool}
theorem Ot.step (h : Ot w v T W) (hb : Below W.heap.size W W') : Ot w v T W' := ⟨below_step h.bel hb, Nat.le_trans h.lt hb.size, (hb.block _ (Array.getElem?_eq_some_iff.1 h.b4).1).trans h.b4, (hb.block _ (Array.getElem?_eq_some_iff.1 h.bx).1).trans h.bx, Kd.R_below h.row hb⟩
theorem In.step (h : In w W0 hd v T W) (hb : Below W.heap.size W W') : In w W0 hd v T W' := ⟨below_step h.bel hb, Nat.le_trans h.lt hb.size, (hb.block _ (Array.getElem?_eq_some_iff.1 h.bx).1).trans h.bx, Kd.R_below h.row hb⟩
/-- Behind an append to the row in the box, and the store of what it left. -/
theorem In.app (h : In w W0 hd v T W) (hg : W.grownBy W' v.ownBlock) (hr : RR W' w.heap.size (fun k => W0.heap.size + 1 ≤ k) v' T') : In w W0 hd v' T' (W'.setCell ⟨W0.heap.size, 6, none⟩ v') := by
  have hlt := (Array.getElem?_eq_some_iff.1 h.bx).1
  have hbx := (hg.block _ hlt fun e => by have := h.row.1 _ e.symm; omega).trans h.bx
  have hs := blk_set hbx 6 v'
  refine ⟨⟨hg.os.trans h.bel.os, hg.tape.trans h.bel.tape, hg.output.trans h.bel.output, ?_, fun k hk => ?_⟩, ?_, by simpa using hs, Kd.R_far (p := ⟨W0.heap.size, 6, none⟩) hr (fun k hk => by show k ≠ W0.heap.size; omega) v'⟩
  · simp; exact Nat.le_trans h.bel.size hg.size
  · refine (Below.heap_setCell _ _ _ _ (by show k ≠ W0.heap.size; omega)).trans ((hg.block k (Nat.lt_of_lt_of_le hk h.bel.size) fun e => ?_).trans (h.bel.block k hk))
    have := h.row.1 _ e.symm
    omega
  · simp; exact Nat.le_trans h.lt hg.size
theorem Ot.app (h : Ot w v T W) (hg : W.grownBy W' v.ownBlock) (hr : RR W' w.heap.size (fun k => w.heap.size + 2 ≤ k) v' T') : Ot w v' T' (W'.setCell ⟨w.heap.size + 1, 6, none⟩ v') := by
  have hlt := (Array.getElem?_eq_some_iff.1 h.bx).1
  have hlt4 := (Array.getElem?_eq_some_iff.1 h.b4).1
  have hbx := (hg.block _ hlt fun e => by have := h.row.1 _ e.symm; omega).trans h.bx
  have hb4 := (hg.block _ hlt4 fun e => by have := h.row.1 _ e.symm; omega).trans h.b4
  have hs := blk_set hbx 6 v'
  refine ⟨⟨hg.os.trans h.bel.os, hg.tape.trans h.bel.tape, hg.output.trans h.bel.output, ?_, fun k hk => ?_⟩, ?_, (Below.heap_setCell _ _ _ _ (by show w.heap.size ≠ w.heap.size + 1; omega)).trans hb4, by simpa using hs, Kd.R_far (p := ⟨w.heap.size + 1, 6, none⟩) hr (fun k hk => by show k ≠ w.heap.size + 1; omega) v'⟩
  · simp; exact Nat.le_trans h.bel.size hg.size
  · refine (Below.heap_setCell _ _ _ _ (by show k ≠ w.heap.size + 1; omega)).trans ((hg.block k (Nat.lt_of_lt_of_le hk h.bel.size) fun e => ?_).trans (h.bel.block k hk))
    have := h.row.1 _ e.symm
    omega
  · simp; exact Nat.le_trans h.lt hg.size
/-- The table's box behind a row's making. -/
theorem Ot.over (h : Ot w v T W0) (hi : Below W0.heap.size W0 W) : Ot w v T W := h.step hi
theorem m_cell (W : World) (base : Nat) (x : Nd) (h : x.f6 = []) : k40.M W base (fun _ => False) x [.int .i64 x.f0, .string x.f1, .string x.f2, .int .i64 x.f3, .int .i64 x.f4, .bool x.f5, .slice none 0 0] := by
  obtain ⟨a, b, c, d, e, f, g⟩ := x
  obtain rfl : g = [] := h
  exact k40_mkM W base _ _ (Kd.R_nil _ _ _ _ _)
end
/-- A box written whole. -/
abbrev put7 (W : World) (b : Nat) (v0 v1 v2 v3 v4 v5 v6 : Value) : World := ((((((W.setCell ⟨b, 0, none⟩ v0).setCell ⟨b, 1, none⟩ v1).setCell ⟨b, 2, none⟩ v2).setCell ⟨b, 3, none⟩ v3).setCell ⟨b, 4, none⟩ v4).setCell ⟨b, 5, none⟩ v5).setCell ⟨b, 6, none⟩ v6
theorem put7_at {W : World} {b : Nat} {c0 c1 c2 c3 c4 c5 c6 : Value} (h : W.heap[b]? = some (.cells #[c0, c1, c2, c3, c4, c5, c6] 40 (0, 0))) (v0 v1 v2 v3 v4 v5 v6 : Value) : (put7 W b v0 v1 v2 v3 v4 v5 v6).heap[b]? = some (.cells #[v0, v1, v2, v3, v4, v5, v6] 40 (0, 0)) := by
  have h6 := blk_set (blk_set (blk_set (blk_set (blk_set (blk_set (blk_set h 0 v0) 1 v1) 2 v2) 3 v3) 4 v4) 5 v5) 6 v6
  simpa using h6
theorem put7_far (W : World) (b : Nat) (v0 v1 v2 v3 v4 v5 v6 : Value) (k : Nat) (hk : k ≠ b) : (put7 W b v0 v1 v2 v3 v4 v5 v6).heap[k]? = W.heap[k]? := by
  have f := fun (V : World) (j : Nat) (v : Value) => Below.heap_setCell V ⟨b, j, none⟩ v k hk
  rw [put7, f, f, f, f, f, f, f]
theorem put7_size (W : World) (b : Nat) (v0 v1 v2 v3 v4 v5 v6 : Value) : (put7 W b v0 v1 v2 v3 v4 v5 v6).heap.size = W.heap.size ∧ (put7 W b v0 v1 v2 v3 v4 v5 v6).os = W.os ∧ (put7 W b v0 v1 v2 v3 v4 v5 v6).tape = W.tape ∧ (put7 W b v0 v1 v2 v3 v4 v5 v6).output = W.output := by
  have h := setCells_same b [v0, v1, v2, v3, v4, v5, v6] 0 W
  have e : W.setCells b 0 [v0, v1, v2, v3, v4, v5, v6] = put7 W b v0 v1 v2 v3 v4 v5 v6 := by simp [World.setCells]
  rw [e] at h
  exact ⟨h.2.2.2, h.1, h.2.1, h.2.2.1⟩
/-- What is left: a table. -/
structure Tbd (w : World) (T : List Nd) (e : Ending) (w' : World) : Prop where
  res : ∃ v, e = .returned (.agg (tcs 10 false v)) ∧ RR w' w.heap.size (fun _ => True) v T
  bel : Below w.heap.size w w'
theorem Ot.done {w W : World} {A : Option Addr} {c : Nat} {T : List Nd} (h : Ot w (.slice A T.length c) T W) : Tbd w T (.returned (.agg (tcs 10 false (.slice A T.length c)))) (put7 W w.heap.size (.int .i64 10) (.string ⟨#[]⟩) (.string ⟨#[]⟩) (.int .i64 0) (.int .i64 0) (.bool false) (.slice A T.length c)) := by
  obtain ⟨s1, s2, s3, s4⟩ := put7_size W w.heap.size (.int .i64 10) (.string ⟨#[]⟩) (.string ⟨#[]⟩) (.int .i64 0) (.int .i64 0) (.bool false) (.slice A T.length c)
  refine ⟨⟨_, rfl, Kd.R_mono (Kd.R_step h.row fun k hk _ => put7_far _ _ _ _ _ _ _ _ _ k (by omega)) fun _ _ => trivial⟩, ⟨s2.trans h.bel.os, s3.trans h.bel.tape, s4.trans h.bel.output, by rw [s1]; exact h.bel.size, fun k hk => (put7_far _ _ _ _ _ _ _ _ _ k (by omega)).trans (h.bel.block k hk)⟩⟩
theorem infoNd : (Tryd.prog.info? 40).map (fun i => (i.zero, i.size, i.bytes)) = some (some (.agg #[.int .i64 0, .string ⟨#[]⟩, .string ⟨#[]⟩, .int .i64 0, .int .i64 0, .bool false, .slice none 0 0]), k40.sz, 88) := by kernel_rfl
theorem meas_lt {n i : Nat} (h : i < n) : n - ((i : Int) + 1).toNat < n - ((i : Int)).toNat := by omega
end Go.Proofs.YthbadcdiagcfkaaDoor.PA

namespace Go.Proofs.YthbadcdiagcfkaaDoor.PA
open Go.RowKit Go.Proofs.YthbadcdiagcfkaaDoor.Pl Go.Proofs.YthbadcdiagcfkaaDoorW.PrintWords Go.Proofs.YthbadcdiagcfkaaDoorW.PrintLast Go.Proofs.YthbadcdiagcfkaaDoorW.PrintMore
set_option linter.unusedVariables false

set_option maxHeartbeats 8000000 in
set_option maxRecDepth 100000 in
theorem nodes_walk {w : World} {A0 : Option Addr} {c0 : Nat} {rows : List (List ByteArray)} {A1 : Option Addr} {c1 : Nat} {al : List Int} (hr0 : Kd.C (Kd.slice 9 Kd.string) w A0 rows.length rows) (hr1 : Kd.C (Kd.int .i64) w A1 al.length al) (hn : rows.length ≤ 1000) (hl : ∀ l ∈ rows, l.length ≤ 1000) :
    Calls Tryd.prog 20 #[.slice A0 rows.length c0, .slice A1 al.length c1] w (Tbd w (rws al 0 rows)) := by
  have HR0 := Aside0.mk hr0
  have HR1 := Aside0.mk hr1
  have HN := Aside0.mk hn
  have HL := Aside0.mk hl
  obtain ⟨R, hR⟩ : ∃ R, Tbd w (rws al 0 rows) = R := ⟨_, rfl⟩
  have HR := Aside0.mk hR
  rw [hR]
  clear hr0 hr1 hn hl hR
  have HS := Aside0.mk (show Ot w (.slice none 0 0) (rws al 0 (rows.take 0)) ((w.alloc (.cells (tcs 0 false (.slice none 0 0)) 40)).alloc (.cells (tcs 10 false (.slice none 0 0)) 40)) from
    ⟨below_alloc (below_alloc (Below.refl _ _) _) _, by simp, (Below.heap_alloc _ _ _ (by simp)).trans (heap_alloc_new w _), heap_alloc2_new w _ _, Kd.R_nil _ _ _ _ _⟩)
  go_enter Tryd.func20, Tryd.ntmps20
  go_wp2_with fail
  go_loopw [6, 7, 8, 9, 10, 11, 15, 25] (fun v6 v7 v8 v9 v10 v11 v15 v25 wr => ∃ (i : Nat) (v : Value), v15 = .int .i64 (i : Int) ∧ i ≤ rows.length ∧ Aside0 (Ot w v (rws al 0 (rows.take i)) wr)) (fun _ _ _ _ _ _ v15 _ _ => rows.length - (intOf v15).toNat)
  case atStart => exact ⟨0, _, rfl, Nat.zero_le _, HS⟩
  case round =>
    obtain ⟨i, v, rfl, hi, HO⟩ := hrel
    clear HS
    obtain ⟨W0, rfl⟩ : ∃ W0, W0 = wr := ⟨_, rfl⟩
    by_cases hlt : i < rows.length
    · have q1 : decide ((i : Int) < (rows.length : Int)) = true := decide_eq_true (by omega)
      have p0 := eq_true (show 0 ≤ (i : Int) from by omega)
      have p1 := eq_true (show (i : Int) < (rows.length : Int) from by omega)
      have HW6 := Aside0.mk (show wrap64 ((i : Int) + 1) = (i : Int) + 1 from w64 (by have := HN.out; omega) (by have := HN.out; omega))
      obtain ⟨ad, A6, c6, e1, y0, hc6, hC6⟩ := at_L2 (Kd.C_below HR0.out HO.out.bel) (i : Int) (by omega) (by omega)
      have hel : rd_L2 rows (i : Int) = rows[i] := by
        unfold rd_L2
        rw [Int.toNat_natCast, List.getD_eq_getElem?_getD, List.getElem?_eq_getElem hlt]
        rfl
      have hnx := rws_next al hlt
      have hl1 := HL.out _ (List.getElem_mem hlt)
      rw [hel, Int.toNat_natCast] at y0
      rw [hel] at hc6 hC6
      obtain ⟨l, hll⟩ : ∃ l, rows[i] = l := ⟨_, rfl⟩
      rw [hll] at y0 hc6 hC6 hnx hl1
      cases e1
      have HC6 := Aside0.mk hC6
      have HNX := Aside0.mk hnx
      have HL1 := Aside0.mk hl1
      clear hel hll hc6 hC6 hnx hl1
      obtain ⟨hd, hhd⟩ : ∃ hd, ((i : Int) == 0) = hd := ⟨_, rfl⟩
      have HHD := Aside0.mk hhd
      go_wp2_with fail
      have HI0 := Aside0.mk (show In w W0 hd (.slice none 0 0) (cls al hd 0 (l.take 0)) (W0.alloc (.cells (tcs 11 hd (.slice none 0 0)) 40)) from ⟨below_alloc (Below.refl _ _) _, by simp, heap_alloc_new _ _, Kd.R_nil _ _ _ _ _⟩)
      go_loopw [9, 10, 11, 25] (fun v9 v10 v11 v25 wz => ∃ (j : Nat) (u : Value), v25 = .int .i64 (j : Int) ∧ j ≤ l.length ∧ Aside0 (In w W0 hd u (cls al hd 0 (l.take j)) wz)) (fun _ _ _ v25 _ => l.length - (intOf v25).toNat)
      case atStart => exact ⟨0, _, rfl, Nat.zero_le _, HI0⟩
      case round =>
        obtain ⟨j, u, rfl, hj, HI⟩ := hrel
        clear HI0 y0
        by_cases hjl : j < l.length
        · have q2 : decide ((j : Int) < (l.length : Int)) = true := decide_eq_true (by omega)
          have r0 := eq_true (show 0 ≤ (j : Int) from by omega)
          have r1 := eq_true (show (j : Int) < (l.length : Int) from by omega)
          have HJ6 := Aside0.mk (show wrap64 ((j : Int) + 1) = (j : Int) + 1 from w64 (by have := HL1.out; omega) (by have := HL1.out; omega))
          obtain ⟨ad2, e2, z0⟩ := Kd.at_string (Kd.C_below HC6.out HI.out.bel) (j : Int) (by omega) (by omega)
          have hel : rdOf ByteArray.empty l (j : Int) = l[j] := by
            unfold rdOf
            rw [Int.toNat_natCast, List.getD_eq_getElem?_getD, List.getElem?_eq_getElem hjl]
            rfl
          rw [hel, Int.toNat_natCast] at z0
          have hnj := cls_next al hd hjl
          obtain ⟨s, hs⟩ : ∃ s, l[j] = s := ⟨_, rfl⟩
          rw [hs] at z0 hnj
          cases e2
          obtain ⟨nn, hnn⟩ : ∃ nn : Int, (if (j : Int) < (al.length : Int) then rd al (j : Int) else 0) = nn := ⟨_, rfl⟩
          unfold cel at hnj
          rw [hnn] at hnj
          have HNJ := Aside0.mk hnj
          have HCL := Aside0.mk (show (cls al hd 0 (l.take j)).length ≤ 1000 from by rw [cls_len, List.length_take]; have := HL1.out; omega)
          obtain ⟨Cs, hCs⟩ : ∃ Cs, cls al hd 0 (l.take j) = Cs := ⟨_, rfl⟩
          rw [hCs] at HI HNJ HCL
          obtain ⟨Au, cu, rfl⟩ := Kd.R_slice HI.out.row
          have HBZ := Aside0.mk (HO.out.bel.trans (HI.out.bel.mono HO.out.bel.size))
          clear hel hnj hs hCs
          have HI1 := Aside0.mk (HI.out.step (below_alloc (Below.refl _ _) (.cells #[.int .i64 12, .string s, .string ⟨#[]⟩, .int .i64 0, .int .i64 0, .bool hd, .slice none 0 0] 40)))
          have HBA := Aside0.mk (below_alloc (Below.refl wr.heap.size wr) (.cells #[.int .i64 12, .string s, .string ⟨#[]⟩, .int .i64 0, .int .i64 0, .bool hd, .slice none 0 0] 40))
          have HB1 := Aside0.mk (below_alloc HBZ.out (.cells #[.int .i64 12, .string s, .string ⟨#[]⟩, .int .i64 0, .int .i64 0, .bool hd, .slice none 0 0] 40))
          have HK1 := Aside0.mk (heap_alloc_new wr (.cells #[.int .i64 12, .string s, .string ⟨#[]⟩, .int .i64 0, .int .i64 0, .bool hd, .slice none 0 0] 40))
          obtain ⟨o, ho⟩ : ∃ o, wr.heap.size = o := ⟨_, rfl⟩
          rw [ho] at HK1
          have HOB := Aside0.mk (show W0.heap.size + 1 ≤ o from by rw [← ho]; exact HI.out.lt)
          obtain ⟨w1, hw1⟩ : ∃ w1, wr.alloc (.cells #[.int .i64 12, .string s, .string ⟨#[]⟩, .int .i64 0, .int .i64 0, .bool hd, .slice none 0 0] 40) = w1 := ⟨_, rfl⟩
          rw [hw1] at HI1 HB1 HK1 HBA
          have HW1 := Aside0.mk hw1
          have HO2 := Aside0.mk ho
          clear hw1 ho
          have HRB := Aside0.mk HO.out.lt
          go_upto_region 10 with fail
          rw [HW1.out, HO2.out]
          clear z0
          by_cases hja : j < al.length
          · have q3 : decide ((j : Int) < (al.length : Int)) = true := decide_eq_true (by omega)
            have r2 := eq_true (show (j : Int) < (al.length : Int) from by omega)
            obtain ⟨ad1, e1, a0⟩ := Kd.at_int (Kd.C_below HR1.out HB1.out) (j : Int) (by omega) (by omega)
            rw [Int.toNat_natCast] at a0
            rw [if_pos (by omega)] at hnn
            rw [hnn] at a0
            cases e1
            have k3 := (Lib.cell_of_heap HK1.out 3).trans rfl
            have kf := Lib.frozen_of_heap HK1.out 3
            have HK3 := Aside0.mk (blk_set HK1.out 3 (.int .i64 nn))
            clear hnn hja
            have HB12 := Aside0.mk (show Below wr.heap.size wr (w1.setCell ⟨o, 3, none⟩ (.int .i64 nn)) from ⟨HBA.out.os, HBA.out.tape, HBA.out.output, by simp; exact HBA.out.size, fun k hk => (Below.heap_setCell _ _ _ _ (by show k ≠ o; have := HO2.out; omega)).trans (HBA.out.block k hk)⟩)
            obtain ⟨w2, hw2⟩ : ∃ w2, w1.setCell ⟨o, 3, none⟩ (.int .i64 nn) = w2 := ⟨_, rfl⟩
            rw [hw2] at HB12 HK3
            have HW2 := Aside0.mk hw2
            have HK2 := Aside0.mk (show w2.heap[o]? = some (.cells #[.int .i64 12, .string s, .string ⟨#[]⟩, .int .i64 nn, .int .i64 0, .bool hd, .slice none 0 0] 40 (0, 0)) from by simpa using HK3.out)
            have HI2 := Aside0.mk (HI.out.step HB12.out)
            have HBW := Aside0.mk (HBZ.out.trans (HB12.out.mono HBZ.out.size))
            clear hw2
            go_upto_region 12 with fail
            rw [HW2.out]
            clear a0 k3 kf
            obtain ⟨g0, g1, g2, g3, g4, g5, g6, gf⟩ := bxAt HI2.out.bx
            have n0 := (Lib.cell_of_heap HK2.out 0).trans rfl
            have n1 := (Lib.cell_of_heap HK2.out 1).trans rfl
            have n2 := (Lib.cell_of_heap HK2.out 2).trans rfl
            have n3 := (Lib.cell_of_heap HK2.out 3).trans rfl
            have n4 := (Lib.cell_of_heap HK2.out 4).trans rfl
            have n5 := (Lib.cell_of_heap HK2.out 5).trans rfl
            have n6 := (Lib.cell_of_heap HK2.out 6).trans rfl
            clear g0 g1 g2 g3 g4 g5 gf
            go_wp2_with (first | (at_builtin; refine Kd.R_append k40 (w0 := w) (W := w2) w.heap.size rfl (.tmp 44) (.tmp 46) 38 40 (.agg #[.int .i64 0, .string ⟨#[]⟩, .string ⟨#[]⟩, .int .i64 0, .int .i64 0, .bool false, .slice none 0 0]) 88 rfl Tryd.underlying38 infoNd rfl (by decide) (by omega) (.slice Au Cs.length cu) Cs ⟨12, s, ⟨#[]⟩, nn, 0, hd, []⟩ [.int .i64 12, .string s, .string ⟨#[]⟩, .int .i64 nn, .int .i64 0, .bool hd, .slice none 0 0] (fun k => W0.heap.size + 1 ≤ k) (fun _ => False) rfl rfl ?aP1 (fun _ h => h.elim) ?aF1 ?aO1 ?aB1 ?aS1 ?aL1 ?_; (case aP1 => exact m_cell w2 _ ⟨12, s, ⟨#[]⟩, nn, 0, hd, []⟩ rfl); (case aF1 => exact fun k hk => Nat.le_trans HI2.out.lt hk); (case aO1 => exact HI2.out.row); (case aB1 => exact HBW.out); (case aS1 => exact HBW.out.size); (case aL1 => have := HCL.out; omega); intro v1 w4 hr4 hb4 hg4 hat4; obtain ⟨Av1, cv1, rfl⟩ := Kd.R_slice hr4; rw [List.length_append, List.length_singleton] at hr4; have HIA := Aside0.mk (HI2.out.app hg4 hr4); have hx4 := bxAt ((hg4.block _ (Array.getElem?_eq_some_iff.1 HI2.out.bx).1 fun e => by have := HI2.out.row.1 _ e.symm; omega).trans HI2.out.bx); have g6 := hx4.d6; have gf := hx4.f6; clear hr4 hb4 hg4 hat4 hx4))
            go_roundw
            case rel => exact ⟨j + 1, _, by rw [HJ6.out]; rfl, by omega, ⟨by rw [HNJ.out]; exact HIA.out⟩⟩
            case measure => rw [HJ6.out]; exact meas_lt hjl
          · have q3 : decide (j < al.length) = false := decide_eq_false hja
            rw [if_neg (by omega)] at hnn
            subst hnn
            obtain ⟨w2, hw2⟩ : ∃ w2, w2 = w1 := ⟨_, rfl⟩
            subst hw2
            have HK2 := HK1
            have HI2 := HI1
            have HBW := HB1
            clear hja
            go_upto_region 12 with fail
            obtain ⟨g0, g1, g2, g3, g4, g5, g6, gf⟩ := bxAt HI2.out.bx
            have n0 := (Lib.cell_of_heap HK2.out 0).trans rfl
            have n1 := (Lib.cell_of_heap HK2.out 1).trans rfl
            have n2 := (Lib.cell_of_heap HK2.out 2).trans rfl
            have n3 := (Lib.cell_of_heap HK2.out 3).trans rfl
            have n4 := (Lib.cell_of_heap HK2.out 4).trans rfl
            have n5 := (Lib.cell_of_heap HK2.out 5).trans rfl
            have n6 := (Lib.cell_of_heap HK2.out 6).trans rfl
            clear g0 g1 g2 g3 g4 g5 gf
            go_wp2_with (first | (at_builtin; refine Kd.R_append k40 (w0 := w) (W := w2) w.heap.size rfl (.tmp 44) (.tmp 46) 38 40 (.agg #[.int .i64 0, .string ⟨#[]⟩, .string ⟨#[]⟩, .int .i64 0, .int .i64 0, .bool false, .slice none 0 0]) 88 rfl Tryd.underlying38 infoNd rfl (by decide) (by omega) (.slice Au Cs.length cu) Cs ⟨12, s, ⟨#[]⟩, 0, 0, hd, []⟩ [.int .i64 12, .string s, .string ⟨#[]⟩, .int .i64 0, .int .i64 0, .bool hd, .slice none 0 0] (fun k => W0.heap.size + 1 ≤ k) (fun _ => False) rfl rfl ?aP2 (fun _ h => h.elim) ?aF2 ?aO2 ?aB2 ?aS2 ?aL2 ?_; (case aP2 => exact m_cell w2 _ ⟨12, s, ⟨#[]⟩, 0, 0, hd, []⟩ rfl); (case aF2 => exact fun k hk => Nat.le_trans HI2.out.lt hk); (case aO2 => exact HI2.out.row); (case aB2 => exact HBW.out); (case aS2 => exact HBW.out.size); (case aL2 => have := HCL.out; omega); intro v1 w4 hr4 hb4 hg4 hat4; obtain ⟨Av1, cv1, rfl⟩ := Kd.R_slice hr4; rw [List.length_append, List.length_singleton] at hr4; have HIA := Aside0.mk (HI2.out.app hg4 hr4); have hx4 := bxAt ((hg4.block _ (Array.getElem?_eq_some_iff.1 HI2.out.bx).1 fun e => by have := HI2.out.row.1 _ e.symm; omega).trans HI2.out.bx); have g6 := hx4.d6; have gf := hx4.f6; clear hr4 hb4 hg4 hat4 hx4))
            go_roundw
            case rel => exact ⟨j + 1, _, by rw [HJ6.out]; rfl, by omega, ⟨by rw [HNJ.out]; exact HIA.out⟩⟩
            case measure => rw [HJ6.out]; exact meas_lt hjl
        · have q2 : decide ((j : Int) < (l.length : Int)) = false := decide_eq_false (by omega)
          obtain rfl : j = l.length := by omega
          rw [List.take_length] at HI
          have HCL := Aside0.mk (show (cls al hd 0 l).length ≤ 1000 from by rw [cls_len]; exact HL1.out)
          obtain ⟨Cs, hCs⟩ : ∃ Cs, cls al hd 0 l = Cs := ⟨_, rfl⟩
          have hnx := HNX.out
          unfold rwn at hnx
          rw [HHD.out, hCs] at hnx
          have HNY := Aside0.mk hnx
          rw [hCs] at HI HCL
          have HTL := Aside0.mk (show (rws al 0 (rows.take i)).length ≤ 1000 from by rw [rws_len, List.length_take]; have := HN.out; omega)
          obtain ⟨Ts, hTs⟩ : ∃ Ts, rws al 0 (rows.take i) = Ts := ⟨_, rfl⟩
          rw [hTs] at HO HNY HTL
          obtain ⟨Au, cu, rfl⟩ := Kd.R_slice HI.out.row
          obtain ⟨Av, cv, rfl⟩ := Kd.R_slice HO.out.row
          have HOZ := Aside0.mk (HO.out.step HI.out.bel)
          have HLT := Aside0.mk (show ∀ k, W0.heap.size + 1 ≤ k → w.heap.size + 2 ≤ k ∧ some k ≠ (Value.slice Av Ts.length cv).ownBlock from fun k hk => ⟨by have := HO.out.lt; omega, fun e => by have := Kd.R_lt HO.out.row k e.symm; omega⟩)
          have HMR := Aside0.mk (show k40.M wr w.heap.size (fun k => W0.heap.size + 1 ≤ k) ⟨11, ⟨#[]⟩, ⟨#[]⟩, 0, 0, hd, Cs⟩ [.int .i64 11, .string ⟨#[]⟩, .string ⟨#[]⟩, .int .i64 0, .int .i64 0, .bool hd, .slice Au Cs.length cu] from k40_mkM wr w.heap.size _ ⟨11, ⟨#[]⟩, ⟨#[]⟩, 0, 0, hd, Cs⟩ HI.out.row)
          obtain ⟨n0, n1, n2, n3, n4, n5, n6, nf⟩ := bxAt HI.out.bx
          have g6 := (bxAt HOZ.out.bx).d6
          clear hnx hCs hTs nf
          go_wp2_with (first | (at_builtin; refine Kd.R_append k40 (w0 := w) (W := wr) w.heap.size rfl (.tmp 51) (.tmp 53) 38 40 (.agg #[.int .i64 0, .string ⟨#[]⟩, .string ⟨#[]⟩, .int .i64 0, .int .i64 0, .bool false, .slice none 0 0]) 88 rfl Tryd.underlying38 infoNd rfl (by decide) (by omega) (.slice Av Ts.length cv) Ts ⟨11, ⟨#[]⟩, ⟨#[]⟩, 0, 0, hd, Cs⟩ [.int .i64 11, .string ⟨#[]⟩, .string ⟨#[]⟩, .int .i64 0, .int .i64 0, .bool hd, .slice Au Cs.length cu] (fun k => w.heap.size + 2 ≤ k) (fun k => W0.heap.size + 1 ≤ k) rfl rfl ?aP3 ?aK3 ?aF3 ?aO3 ?aB3 ?aS3 ?aL3 ?_; (case aP3 => exact HMR.out); (case aK3 => exact HLT.out); (case aF3 => exact fun k hk => Nat.le_trans HOZ.out.lt hk); (case aO3 => exact HOZ.out.row); (case aB3 => exact HOZ.out.bel); (case aS3 => exact HOZ.out.bel.size); (case aL3 => have := HTL.out; omega); intro v1 w4 hr4 hb4 hg4 hat4; obtain ⟨Av1, cv1, rfl⟩ := Kd.R_slice hr4; rw [List.length_append, List.length_singleton] at hr4; have HOA := Aside0.mk (HOZ.out.app hg4 hr4); have hx4 := bxAt ((hg4.block _ (Array.getElem?_eq_some_iff.1 HOZ.out.bx).1 fun e => by have := HOZ.out.row.1 _ e.symm; omega).trans HOZ.out.bx); have gg6 := hx4.d6; have ggf := hx4.f6; clear hr4 hb4 hg4 hat4 hx4))
          go_roundw
          case rel => exact ⟨i + 1, _, by rw [HW6.out]; rfl, by omega, ⟨by rw [HNY.out]; exact HOA.out⟩⟩
          case measure => rw [HW6.out]; exact meas_lt hlt
    · have q1 : decide ((i : Int) < (rows.length : Int)) = false := decide_eq_false (by omega)
      obtain rfl : i = rows.length := by omega
      obtain ⟨n0, n1, n2, n3, n4, n5, n6, nf⟩ := bxAt HO.out.bx
      obtain ⟨m0, m1, m2, m3, m4, m5, m6, mf⟩ := bxAt HO.out.b4
      have mf0 := Lib.frozen_of_heap HO.out.b4 0
      have mf1 := Lib.frozen_of_heap HO.out.b4 1
      have mf2 := Lib.frozen_of_heap HO.out.b4 2
      have mf3 := Lib.frozen_of_heap HO.out.b4 3
      have mf4 := Lib.frozen_of_heap HO.out.b4 4
      have mf5 := Lib.frozen_of_heap HO.out.b4 5
      rw [List.take_length] at HO
      obtain ⟨Av, cv, rfl⟩ := Kd.R_slice HO.out.row
      go_wp2
      refine bodyPost_ret (results_cell_row rfl _ _ w.heap.size 40 (tcs 10 false (.slice Av (rws al 0 rows).length cv)) (0, 0) _ rfl (put7_at HO.out.b4 _ _ _ _ _ _ _) Tryd.underlying40 rfl (by kernel_rfl)) rfl ?_
      rw [← HR.out]
      exact HO.out.done
end Go.Proofs.YthbadcdiagcfkaaDoor.PA

namespace Go.Proofs.YthbadcdiagcfkaaDoor.PA
open Go.RowKit Go.Proofs.YthbadcdiagcfkaaDoor.Pl Go.Proofs.YthbadcdiagcfkaaDoorW.PrintWords Go.Proofs.YthbadcdiagcfkaaDoorW.PrintLast Go.Proofs.YthbadcdiagcfkaaDoorW.PrintMore
set_option linter.unusedVariables false

set_option maxHeartbeats 8000000 in
set_option maxRecDepth 100000 in
theorem nodesR_walk {w : World} {A0 : Option Addr} {c0 : Nat} {rows : List (List ByteArray)} {A1 : Option Addr} {c1 : Nat} {al : List Int} (hr0 : Kd.C (Kd.slice 9 Kd.string) w A0 rows.length rows) (hr1 : Kd.C (Kd.int .i64) w A1 al.length al) (hn : rows.length ≤ 1000) (hl : ∀ l ∈ rows, l.length ≤ 1000) :
    Calls Tryd.prog 21 #[.slice A0 rows.length c0, .slice A1 al.length c1] w (Tbd w (rws al 0 rows)) := by
  have HR0 := Aside0.mk hr0
  have HR1 := Aside0.mk hr1
  have HN := Aside0.mk hn
  have HL := Aside0.mk hl
  obtain ⟨R, hR⟩ : ∃ R, Tbd w (rws al 0 rows) = R := ⟨_, rfl⟩
  have HR := Aside0.mk hR
  rw [hR]
  clear hr0 hr1 hn hl hR
  have HS := Aside0.mk (show Ot w (.slice none 0 0) (rws al 0 (rows.take 0)) ((w.alloc (.cells (tcs 0 false (.slice none 0 0)) 40)).alloc (.cells (tcs 10 false (.slice none 0 0)) 40)) from
    ⟨below_alloc (below_alloc (Below.refl _ _) _) _, by simp, (Below.heap_alloc _ _ _ (by simp)).trans (heap_alloc_new w _), heap_alloc2_new w _ _, Kd.R_nil _ _ _ _ _⟩)
  go_enter Tryd.func21, Tryd.ntmps21
  go_wp2_with fail
  go_loopw [6, 7, 8, 9] (fun v6 v7 v8 v9 wr => ∃ (i : Nat) (v : Value), v6 = .int .i64 (i : Int) ∧ i ≤ rows.length ∧ Aside0 (Ot w v (rws al 0 (rows.take i)) wr)) (fun v6 _ _ _ _ => rows.length - (intOf v6).toNat)
  case atStart => exact ⟨0, _, rfl, Nat.zero_le _, HS⟩
  case round =>
    obtain ⟨i, v, rfl, hi, HO⟩ := hrel
    clear HS
    obtain ⟨W0, rfl⟩ : ∃ W0, W0 = wr := ⟨_, rfl⟩
    by_cases hlt : i < rows.length
    · have q1 : decide ((i : Int) < (rows.length : Int)) = true := decide_eq_true (by omega)
      have p0 := eq_true (show 0 ≤ (i : Int) from by omega)
      have p1 := eq_true (show (i : Int) < (rows.length : Int) from by omega)
      have HW6 := Aside0.mk (show wrap64 ((i : Int) + 1) = (i : Int) + 1 from w64 (by have := HN.out; omega) (by have := HN.out; omega))
      obtain ⟨ad, A6, c6, e1, y0, hc6, hC6⟩ := at_L2 (Kd.C_below HR0.out HO.out.bel) (i : Int) (by omega) (by omega)
      have hel : rd_L2 rows (i : Int) = rows[i] := by
        unfold rd_L2
        rw [Int.toNat_natCast, List.getD_eq_getElem?_getD, List.getElem?_eq_getElem hlt]
        rfl
      have hnx := rws_next al hlt
      have hl1 := HL.out _ (List.getElem_mem hlt)
      rw [hel, Int.toNat_natCast] at y0
      rw [hel] at hc6 hC6
      obtain ⟨l, hll⟩ : ∃ l, rows[i] = l := ⟨_, rfl⟩
      rw [hll] at y0 hc6 hC6 hnx hl1
      cases e1
      have HC6 := Aside0.mk hC6
      have HY0 := Aside0.mk y0
      have HNX := Aside0.mk hnx
      have HL1 := Aside0.mk hl1
      clear hel hll hc6 hC6 hnx hl1
      obtain ⟨hd, hhd⟩ : ∃ hd, ((i : Int) == 0) = hd := ⟨_, rfl⟩
      have HHD := Aside0.mk hhd
      go_wp2_with fail
      have HI0 := Aside0.mk (show In w W0 hd (.slice none 0 0) (cls al hd 0 (l.take 0)) (W0.alloc (.cells (tcs 11 hd (.slice none 0 0)) 40)) from ⟨below_alloc (Below.refl _ _) _, by simp, heap_alloc_new _ _, Kd.R_nil _ _ _ _ _⟩)
      go_loopw [8, 9] (fun v8 v9 wz => ∃ (j : Nat) (u : Value), v8 = .int .i64 (j : Int) ∧ j ≤ l.length ∧ Aside0 (In w W0 hd u (cls al hd 0 (l.take j)) wz)) (fun v8 _ _ => l.length - (intOf v8).toNat)
      case atStart => exact ⟨0, _, rfl, Nat.zero_le _, HI0⟩
      case round =>
        obtain ⟨j, u, rfl, hj, HI⟩ := hrel
        clear HI0 y0
        have y0 := (HI.out.bel.cell (World.block_lt_of_cell? W0 _ HY0.out)).trans HY0.out
        by_cases hjl : j < l.length
        · have q2 : decide ((j : Int) < (l.length : Int)) = true := decide_eq_true (by omega)
          have r0 := eq_true (show 0 ≤ (j : Int) from by omega)
          have r1 := eq_true (show (j : Int) < (l.length : Int) from by omega)
          have HJ6 := Aside0.mk (show wrap64 ((j : Int) + 1) = (j : Int) + 1 from w64 (by have := HL1.out; omega) (by have := HL1.out; omega))
          obtain ⟨ad2, e2, z0⟩ := Kd.at_string (Kd.C_below HC6.out HI.out.bel) (j : Int) (by omega) (by omega)
          have hel : rdOf ByteArray.empty l (j : Int) = l[j] := by
            unfold rdOf
            rw [Int.toNat_natCast, List.getD_eq_getElem?_getD, List.getElem?_eq_getElem hjl]
            rfl
          rw [hel, Int.toNat_natCast] at z0
          have hnj := cls_next al hd hjl
          obtain ⟨s, hs⟩ : ∃ s, l[j] = s := ⟨_, rfl⟩
          rw [hs] at z0 hnj
          cases e2
          obtain ⟨nn, hnn⟩ : ∃ nn : Int, (if (j : Int) < (al.length : Int) then rd al (j : Int) else 0) = nn := ⟨_, rfl⟩
          unfold cel at hnj
          rw [hnn] at hnj
          have HNJ := Aside0.mk hnj
          have HCL := Aside0.mk (show (cls al hd 0 (l.take j)).length ≤ 1000 from by rw [cls_len, List.length_take]; have := HL1.out; omega)
          obtain ⟨Cs, hCs⟩ : ∃ Cs, cls al hd 0 (l.take j) = Cs := ⟨_, rfl⟩
          rw [hCs] at HI HNJ HCL
          obtain ⟨Au, cu, rfl⟩ := Kd.R_slice HI.out.row
          have HBZ := Aside0.mk (HO.out.bel.trans (HI.out.bel.mono HO.out.bel.size))
          clear hel hnj hs hCs
          have HI1 := Aside0.mk (HI.out.step (below_alloc (Below.refl _ _) (.cells #[.int .i64 12, .string s, .string ⟨#[]⟩, .int .i64 0, .int .i64 0, .bool hd, .slice none 0 0] 40)))
          have HBA := Aside0.mk (below_alloc (Below.refl wr.heap.size wr) (.cells #[.int .i64 12, .string s, .string ⟨#[]⟩, .int .i64 0, .int .i64 0, .bool hd, .slice none 0 0] 40))
          have HB1 := Aside0.mk (below_alloc HBZ.out (.cells #[.int .i64 12, .string s, .string ⟨#[]⟩, .int .i64 0, .int .i64 0, .bool hd, .slice none 0 0] 40))
          have HK1 := Aside0.mk (heap_alloc_new wr (.cells #[.int .i64 12, .string s, .string ⟨#[]⟩, .int .i64 0, .int .i64 0, .bool hd, .slice none 0 0] 40))
          obtain ⟨o, ho⟩ : ∃ o, wr.heap.size = o := ⟨_, rfl⟩
          rw [ho] at HK1
          have HOB := Aside0.mk (show W0.heap.size + 1 ≤ o from by rw [← ho]; exact HI.out.lt)
          obtain ⟨w1, hw1⟩ : ∃ w1, wr.alloc (.cells #[.int .i64 12, .string s, .string ⟨#[]⟩, .int .i64 0, .int .i64 0, .bool hd, .slice none 0 0] 40) = w1 := ⟨_, rfl⟩
          rw [hw1] at HI1 HB1 HK1 HBA
          have HW1 := Aside0.mk hw1
          have HO2 := Aside0.mk ho
          clear hw1 ho
          have HRB := Aside0.mk HO.out.lt
          go_upto_region 10 with fail
          rw [HW1.out, HO2.out]
          clear z0 y0
          by_cases hja : j < al.length
          · have q3 : decide ((j : Int) < (al.length : Int)) = true := decide_eq_true (by omega)
            have r2 := eq_true (show (j : Int) < (al.length : Int) from by omega)
            obtain ⟨ad1, e1, a0⟩ := Kd.at_int (Kd.C_below HR1.out HB1.out) (j : Int) (by omega) (by omega)
            rw [Int.toNat_natCast] at a0
            rw [if_pos (by omega)] at hnn
            rw [hnn] at a0
            cases e1
            have k3 := (Lib.cell_of_heap HK1.out 3).trans rfl
            have kf := Lib.frozen_of_heap HK1.out 3
            have HK3 := Aside0.mk (blk_set HK1.out 3 (.int .i64 nn))
            clear hnn hja
            have HB12 := Aside0.mk (show Below wr.heap.size wr (w1.setCell ⟨o, 3, none⟩ (.int .i64 nn)) from ⟨HBA.out.os, HBA.out.tape, HBA.out.output, by simp; exact HBA.out.size, fun k hk => (Below.heap_setCell _ _ _ _ (by show k ≠ o; have := HO2.out; omega)).trans (HBA.out.block k hk)⟩)
            obtain ⟨w2, hw2⟩ : ∃ w2, w1.setCell ⟨o, 3, none⟩ (.int .i64 nn) = w2 := ⟨_, rfl⟩
            rw [hw2] at HB12 HK3
            have HW2 := Aside0.mk hw2
            have HK2 := Aside0.mk (show w2.heap[o]? = some (.cells #[.int .i64 12, .string s, .string ⟨#[]⟩, .int .i64 nn, .int .i64 0, .bool hd, .slice none 0 0] 40 (0, 0)) from by simpa using HK3.out)
            have HI2 := Aside0.mk (HI.out.step HB12.out)
            have HBW := Aside0.mk (HBZ.out.trans (HB12.out.mono HBZ.out.size))
            clear hw2
            go_upto_region 12 with fail
            rw [HW2.out]
            clear a0 k3 kf
            obtain ⟨g0, g1, g2, g3, g4, g5, g6, gf⟩ := bxAt HI2.out.bx
            have n0 := (Lib.cell_of_heap HK2.out 0).trans rfl
            have n1 := (Lib.cell_of_heap HK2.out 1).trans rfl
            have n2 := (Lib.cell_of_heap HK2.out 2).trans rfl
            have n3 := (Lib.cell_of_heap HK2.out 3).trans rfl
            have n4 := (Lib.cell_of_heap HK2.out 4).trans rfl
            have n5 := (Lib.cell_of_heap HK2.out 5).trans rfl
            have n6 := (Lib.cell_of_heap HK2.out 6).trans rfl
            clear g0 g1 g2 g3 g4 g5 gf
            go_wp2_with (first | (at_builtin; refine Kd.R_append k40 (w0 := w) (W := w2) w.heap.size rfl (.tmp 49) (.tmp 51) 38 40 (.agg #[.int .i64 0, .string ⟨#[]⟩, .string ⟨#[]⟩, .int .i64 0, .int .i64 0, .bool false, .slice none 0 0]) 88 rfl Tryd.underlying38 infoNd rfl (by decide) (by omega) (.slice Au Cs.length cu) Cs ⟨12, s, ⟨#[]⟩, nn, 0, hd, []⟩ [.int .i64 12, .string s, .string ⟨#[]⟩, .int .i64 nn, .int .i64 0, .bool hd, .slice none 0 0] (fun k => W0.heap.size + 1 ≤ k) (fun _ => False) rfl rfl ?aP1 (fun _ h => h.elim) ?aF1 ?aO1 ?aB1 ?aS1 ?aL1 ?_; (case aP1 => exact m_cell w2 _ ⟨12, s, ⟨#[]⟩, nn, 0, hd, []⟩ rfl); (case aF1 => exact fun k hk => Nat.le_trans HI2.out.lt hk); (case aO1 => exact HI2.out.row); (case aB1 => exact HBW.out); (case aS1 => exact HBW.out.size); (case aL1 => have := HCL.out; omega); intro v1 w4 hr4 hb4 hg4 hat4; obtain ⟨Av1, cv1, rfl⟩ := Kd.R_slice hr4; rw [List.length_append, List.length_singleton] at hr4; have HIA := Aside0.mk (HI2.out.app hg4 hr4); have hx4 := bxAt ((hg4.block _ (Array.getElem?_eq_some_iff.1 HI2.out.bx).1 fun e => by have := HI2.out.row.1 _ e.symm; omega).trans HI2.out.bx); have g6 := hx4.d6; have gf := hx4.f6; clear hr4 hb4 hg4 hat4 hx4))
            go_roundw
            case rel => exact ⟨j + 1, _, by rw [HJ6.out]; rfl, by omega, ⟨by rw [HNJ.out]; exact HIA.out⟩⟩
            case measure => rw [HJ6.out]; exact meas_lt hjl
          · have q3 : decide (j < al.length) = false := decide_eq_false hja
            rw [if_neg (by omega)] at hnn
            subst hnn
            obtain ⟨w2, hw2⟩ : ∃ w2, w2 = w1 := ⟨_, rfl⟩
            subst hw2
            have HK2 := HK1
            have HI2 := HI1
            have HBW := HB1
            clear hja
            go_upto_region 12 with fail
            obtain ⟨g0, g1, g2, g3, g4, g5, g6, gf⟩ := bxAt HI2.out.bx
            have n0 := (Lib.cell_of_heap HK2.out 0).trans rfl
            have n1 := (Lib.cell_of_heap HK2.out 1).trans rfl
            have n2 := (Lib.cell_of_heap HK2.out 2).trans rfl
            have n3 := (Lib.cell_of_heap HK2.out 3).trans rfl
            have n4 := (Lib.cell_of_heap HK2.out 4).trans rfl
            have n5 := (Lib.cell_of_heap HK2.out 5).trans rfl
            have n6 := (Lib.cell_of_heap HK2.out 6).trans rfl
            clear g0 g1 g2 g3 g4 g5 gf
            go_wp2_with (first | (at_builtin; refine Kd.R_append k40 (w0 := w) (W := w2) w.heap.size rfl (.tmp 49) (.tmp 51) 38 40 (.agg #[.int .i64 0, .string ⟨#[]⟩, .string ⟨#[]⟩, .int .i64 0, .int .i64 0, .bool false, .slice none 0 0]) 88 rfl Tryd.underlying38 infoNd rfl (by decide) (by omega) (.slice Au Cs.length cu) Cs ⟨12, s, ⟨#[]⟩, 0, 0, hd, []⟩ [.int .i64 12, .string s, .string ⟨#[]⟩, .int .i64 0, .int .i64 0, .bool hd, .slice none 0 0] (fun k => W0.heap.size + 1 ≤ k) (fun _ => False) rfl rfl ?aP2 (fun _ h => h.elim) ?aF2 ?aO2 ?aB2 ?aS2 ?aL2 ?_; (case aP2 => exact m_cell w2 _ ⟨12, s, ⟨#[]⟩, 0, 0, hd, []⟩ rfl); (case aF2 => exact fun k hk => Nat.le_trans HI2.out.lt hk); (case aO2 => exact HI2.out.row); (case aB2 => exact HBW.out); (case aS2 => exact HBW.out.size); (case aL2 => have := HCL.out; omega); intro v1 w4 hr4 hb4 hg4 hat4; obtain ⟨Av1, cv1, rfl⟩ := Kd.R_slice hr4; rw [List.length_append, List.length_singleton] at hr4; have HIA := Aside0.mk (HI2.out.app hg4 hr4); have hx4 := bxAt ((hg4.block _ (Array.getElem?_eq_some_iff.1 HI2.out.bx).1 fun e => by have := HI2.out.row.1 _ e.symm; omega).trans HI2.out.bx); have g6 := hx4.d6; have gf := hx4.f6; clear hr4 hb4 hg4 hat4 hx4))
            go_roundw
            case rel => exact ⟨j + 1, _, by rw [HJ6.out]; rfl, by omega, ⟨by rw [HNJ.out]; exact HIA.out⟩⟩
            case measure => rw [HJ6.out]; exact meas_lt hjl
        · have q2 : decide ((j : Int) < (l.length : Int)) = false := decide_eq_false (by omega)
          obtain rfl : j = l.length := by omega
          rw [List.take_length] at HI
          have HCL := Aside0.mk (show (cls al hd 0 l).length ≤ 1000 from by rw [cls_len]; exact HL1.out)
          obtain ⟨Cs, hCs⟩ : ∃ Cs, cls al hd 0 l = Cs := ⟨_, rfl⟩
          have hnx := HNX.out
          unfold rwn at hnx
          rw [HHD.out, hCs] at hnx
          have HNY := Aside0.mk hnx
          rw [hCs] at HI HCL
          have HTL := Aside0.mk (show (rws al 0 (rows.take i)).length ≤ 1000 from by rw [rws_len, List.length_take]; have := HN.out; omega)
          obtain ⟨Ts, hTs⟩ : ∃ Ts, rws al 0 (rows.take i) = Ts := ⟨_, rfl⟩
          rw [hTs] at HO HNY HTL
          obtain ⟨Au, cu, rfl⟩ := Kd.R_slice HI.out.row
          obtain ⟨Av, cv, rfl⟩ := Kd.R_slice HO.out.row
          have HOZ := Aside0.mk (HO.out.step HI.out.bel)
          have HLT := Aside0.mk (show ∀ k, W0.heap.size + 1 ≤ k → w.heap.size + 2 ≤ k ∧ some k ≠ (Value.slice Av Ts.length cv).ownBlock from fun k hk => ⟨by have := HO.out.lt; omega, fun e => by have := Kd.R_lt HO.out.row k e.symm; omega⟩)
          have HMR := Aside0.mk (show k40.M wr w.heap.size (fun k => W0.heap.size + 1 ≤ k) ⟨11, ⟨#[]⟩, ⟨#[]⟩, 0, 0, hd, Cs⟩ [.int .i64 11, .string ⟨#[]⟩, .string ⟨#[]⟩, .int .i64 0, .int .i64 0, .bool hd, .slice Au Cs.length cu] from k40_mkM wr w.heap.size _ ⟨11, ⟨#[]⟩, ⟨#[]⟩, 0, 0, hd, Cs⟩ HI.out.row)
          obtain ⟨n0, n1, n2, n3, n4, n5, n6, nf⟩ := bxAt HI.out.bx
          have g6 := (bxAt HOZ.out.bx).d6
          clear hnx hCs hTs nf
          go_wp2_with (first | (at_builtin; refine Kd.R_append k40 (w0 := w) (W := wr) w.heap.size rfl (.tmp 55) (.tmp 57) 38 40 (.agg #[.int .i64 0, .string ⟨#[]⟩, .string ⟨#[]⟩, .int .i64 0, .int .i64 0, .bool false, .slice none 0 0]) 88 rfl Tryd.underlying38 infoNd rfl (by decide) (by omega) (.slice Av Ts.length cv) Ts ⟨11, ⟨#[]⟩, ⟨#[]⟩, 0, 0, hd, Cs⟩ [.int .i64 11, .string ⟨#[]⟩, .string ⟨#[]⟩, .int .i64 0, .int .i64 0, .bool hd, .slice Au Cs.length cu] (fun k => w.heap.size + 2 ≤ k) (fun k => W0.heap.size + 1 ≤ k) rfl rfl ?aP3 ?aK3 ?aF3 ?aO3 ?aB3 ?aS3 ?aL3 ?_; (case aP3 => exact HMR.out); (case aK3 => exact HLT.out); (case aF3 => exact fun k hk => Nat.le_trans HOZ.out.lt hk); (case aO3 => exact HOZ.out.row); (case aB3 => exact HOZ.out.bel); (case aS3 => exact HOZ.out.bel.size); (case aL3 => have := HTL.out; omega); intro v1 w4 hr4 hb4 hg4 hat4; obtain ⟨Av1, cv1, rfl⟩ := Kd.R_slice hr4; rw [List.length_append, List.length_singleton] at hr4; have HOA := Aside0.mk (HOZ.out.app hg4 hr4); have hx4 := bxAt ((hg4.block _ (Array.getElem?_eq_some_iff.1 HOZ.out.bx).1 fun e => by have := HOZ.out.row.1 _ e.symm; omega).trans HOZ.out.bx); have gg6 := hx4.d6; have ggf := hx4.f6; clear hr4 hb4 hg4 hat4 hx4))
          go_roundw
          case rel => exact ⟨i + 1, _, by rw [HW6.out]; rfl, by omega, ⟨by rw [HNY.out]; exact HOA.out⟩⟩
          case measure => rw [HW6.out]; exact meas_lt hlt
    · have q1 : decide ((i : Int) < (rows.length : Int)) = false := decide_eq_false (by omega)
      obtain rfl : i = rows.length := by omega
      obtain ⟨n0, n1, n2, n3, n4, n5, n6, nf⟩ := bxAt HO.out.bx
      obtain ⟨m0, m1, m2, m3, m4, m5, m6, mf⟩ := bxAt HO.out.b4
      have mf0 := Lib.frozen_of_heap HO.out.b4 0
      have mf1 := Lib.frozen_of_heap HO.out.b4 1
      have mf2 := Lib.frozen_of_heap HO.out.b4 2
      have mf3 := Lib.frozen_of_heap HO.out.b4 3
      have mf4 := Lib.frozen_of_heap HO.out.b4 4
      have mf5 := Lib.frozen_of_heap HO.out.b4 5
      rw [List.take_length] at HO
      obtain ⟨Av, cv, rfl⟩ := Kd.R_slice HO.out.row
      go_wp2
      refine bodyPost_ret (results_cell_row rfl _ _ w.heap.size 40 (tcs 10 false (.slice Av (rws al 0 rows).length cv)) (0, 0) _ rfl (put7_at HO.out.b4 _ _ _ _ _ _ _) Tryd.underlying40 rfl (by kernel_rfl)) rfl ?_
      rw [← HR.out]
      exact HO.out.done
end Go.Proofs.YthbadcdiagcfkaaDoor.PA

namespace Go.Proofs.YthbadcdiagcfkaaDoor.PA
open Go.RowKit Go.Proofs.YthbadcdiagcfkaaDoor.Pl Go.Proofs.YthbadcdiagcfkaaDoorW.PrintWords Go.Proofs.YthbadcdiagcfkaaDoorW.PrintLast Go.Proofs.YthbadcdiagcfkaaDoorW.PrintMore
set_option linter.unusedVariables false

def table_Nodes.f (k : Nat) (l0 : List (List ByteArray)) (l1 : List Int) : Option (Int × ByteArray × ByteArray × Int × Int × Bool × (List (S40))) := if l0.length ≤ 1000 ∧ ∀ l ∈ l0, l.length ≤ 1000 then some (10, ⟨#[]⟩, ⟨#[]⟩, 0, 0, false, rws l1 0 l0) else none
theorem table_Nodes.calls (k : Nat) (A0 : Option Addr) (c0 : Nat) (l0 : List (List ByteArray)) (A1 : Option Addr) (c1 : Nat) (l1 : List Int) (r1 : Int) (r2 : ByteArray) (r3 : ByteArray) (r4 : Int) (r5 : Int) (r6 : Bool) (r7 : List (S40)) (w : World) (hr0 : Kd.C (Kd.slice 9 Kd.string) w A0 l0.length l0) (hc0 : l0.length ≤ c0) (hr1 : Kd.C (Kd.int .i64) w A1 l1.length l1) (hc1 : l1.length ≤ c1) (h : table_Nodes.f k l0 l1 = some (r1, r2, r3, r4, r5, r6, r7)) :
    Calls Tryd.prog 20 #[.slice A0 l0.length c0, .slice A1 l1.length c1] w fun e w' => ∃ v6_ : Value, e = .returned (.agg #[.int .i64 r1, .string r2, .string r3, .int .i64 r4, .int .i64 r5, .bool r6, v6_]) ∧ Kd.R k40 40 w' w.heap.size (fun _ => True) v6_ r7 ∧ Below w.heap.size w w' := by
  unfold table_Nodes.f at h
  split at h
  · rename_i hc
    simp only [Option.some.injEq, Prod.mk.injEq] at h
    obtain ⟨rfl, rfl, rfl, rfl, rfl, rfl, rfl⟩ := h
    refine (nodes_walk (c0 := c0) (c1 := c1) hr0 hr1 hc.1 hc.2).mono fun e w' ht => ?_
    obtain ⟨v, he, hr⟩ := ht.res
    exact ⟨v, he, hr, ht.bel⟩
  · cases h
def incipitref15_Nodes.f (k : Nat) (l0 : List (List ByteArray)) (l1 : List Int) : Option (Int × ByteArray × ByteArray × Int × Int × Bool × (List (S40))) := if l0.length ≤ 1000 ∧ ∀ l ∈ l0, l.length ≤ 1000 then some (10, ⟨#[]⟩, ⟨#[]⟩, 0, 0, false, rws l1 0 l0) else none
theorem incipitref15_Nodes.calls (k : Nat) (A0 : Option Addr) (c0 : Nat) (l0 : List (List ByteArray)) (A1 : Option Addr) (c1 : Nat) (l1 : List Int) (r1 : Int) (r2 : ByteArray) (r3 : ByteArray) (r4 : Int) (r5 : Int) (r6 : Bool) (r7 : List (S40)) (w : World) (hr0 : Kd.C (Kd.slice 9 Kd.string) w A0 l0.length l0) (hc0 : l0.length ≤ c0) (hr1 : Kd.C (Kd.int .i64) w A1 l1.length l1) (hc1 : l1.length ≤ c1) (h : incipitref15_Nodes.f k l0 l1 = some (r1, r2, r3, r4, r5, r6, r7)) :
    Calls Tryd.prog 21 #[.slice A0 l0.length c0, .slice A1 l1.length c1] w fun e w' => ∃ v6_ : Value, e = .returned (.agg #[.int .i64 r1, .string r2, .string r3, .int .i64 r4, .int .i64 r5, .bool r6, v6_]) ∧ Kd.R k40 40 w' w.heap.size (fun _ => True) v6_ r7 ∧ Below w.heap.size w w' := by
  unfold incipitref15_Nodes.f at h
  split at h
  · rename_i hc
    simp only [Option.some.injEq, Prod.mk.injEq] at h
    obtain ⟨rfl, rfl, rfl, rfl, rfl, rfl, rfl⟩ := h
    refine (nodesR_walk (c0 := c0) (c1 := c1) hr0 hr1 hc.1 hc.2).mono fun e w' ht => ?_
    obtain ⟨v, he, hr⟩ := ht.res
    exact ⟨v, he, hr, ht.bel⟩
  · cases h
end Go.Proofs.YthbadcdiagcfkaaDoor.PA

namespace Go.Proofs.YthbadcdiagcfkaaDoor.PA
open Go.RowKit Go.Proofs.YthbadcdiagcfkaaDoorW.PrintWords Go.Proofs.YthbadcdiagcfkaaDoorW.PrintLast Go.Proofs.YthbadcdiagcfkaaDoorW.PrintMore
attribute [local go_sem] max2_int min2_int max_two min_two max_three min_three max_four min_four   -- for this text's walks alone
set_option linter.unusedVariables false
set_option linter.unusedSimpArgs false

/-! ### incipitlaw15_TableNodes: function 8 -/
mutual
def incipitlaw15_TableNodes.j0 : Nat → List (List ByteArray) → List Int → Bool → Bool → Option (Bool)
  | 0, _, _, _, _ => none
  | k + 1, x0, x1, x5, x16 => if x16 = true then (some x5) else (incipitlaw15_TableNodes.l0 k x0 x1 x5 0)
def incipitlaw15_TableNodes.l0 : Nat → List (List ByteArray) → List Int → Bool → Int → Option (Bool)
  | 0, _, _, _, _ => none
  | k + 1, x0, x1, x5, x6 => if x6 < (x0.length : Int) then (if 0 ≤ x6 then (if ((rd_L2 x0 x6).length : Int) > 40 then (some x5) else (incipitlaw15_TableNodes.l1 k x0 x1 x5 x6 0)) else (none)) else (if x5 = true then ((table_Nodes.f k x0 x1).bind fun bt348 => ((incipitref15_Nodes.f k x0 x1).bind fun bt357 => ((incipitref06_Same.f k bt348.1 bt348.2.1 bt348.2.2.1 bt348.2.2.2.1 bt348.2.2.2.2.1 bt348.2.2.2.2.2.1 bt348.2.2.2.2.2.2 bt357.1 bt357.2.1 bt357.2.2.1 bt357.2.2.2.1 bt357.2.2.2.2.1 bt357.2.2.2.2.2.1 bt357.2.2.2.2.2.2).bind fun t366 => (some t366)))) else (some false))
def incipitlaw15_TableNodes.l1 : Nat → List (List ByteArray) → List Int → Bool → Int → Int → Option (Bool)
  | 0, _, _, _, _, _ => none
  | k + 1, x0, x1, x5, x6, x7 => if 0 ≤ x6 then (if x6 < (x0.length : Int) then (if x7 < ((rd_L2 x0 x6).length : Int) then (if 0 ≤ x7 then (if ((rdOf ByteArray.empty (rd_L2 x0 x6) x7).size : Int) > 300 then (some x5) else (incipitlaw15_TableNodes.l1 k x0 x1 x5 x6 (wrap64 (x7 + 1)))) else (none)) else (incipitlaw15_TableNodes.l0 k x0 x1 x5 (wrap64 (x6 + 1)))) else (none)) else (none)
end
def incipitlaw15_TableNodes.f (k : Nat) (l0 : List (List ByteArray)) (l1 : List Int) : Option (Bool) := (incipitlaw15_awake.f k).bind fun t347 => (if (l0.length : Int) > 40 then (incipitlaw15_TableNodes.j0 k l0 l1 t347 true) else (incipitlaw15_TableNodes.j0 k l0 l1 t347 (decide ((l1.length : Int) > 100))))
set_option maxHeartbeats 8000000 in
set_option maxRecDepth 100000 in
theorem incipitlaw15_TableNodes.calls (k : Nat) (A0 : Option Addr) (c0 : Nat) (l0 : List (List ByteArray)) (A1 : Option Addr) (c1 : Nat) (l1 : List Int) (r : Bool) (w : World) (hLd : Laid w) (hr0 : Kd.C (Kd.slice 9 Kd.string) w A0 l0.length l0) (hc0 : l0.length ≤ c0) (hr1 : Kd.C (Kd.int .i64) w A1 l1.length l1) (hc1 : l1.length ≤ c1) (h : incipitlaw15_TableNodes.f k l0 l1 = some r) :
    Calls Tryd.prog 8 #[.slice A0 l0.length c0, .slice A1 l1.length c1] w fun e w' => e = .returned (.bool r) ∧ Below w.heap.size w w' := by
  have HR0 := Aside0.mk hr0
  have HC0 := Aside0.mk hc0
  clear hr0 hc0
  have HR1 := Aside0.mk hr1
  have HC1 := Aside0.mk hc1
  clear hr1 hc1
  have HB := Aside0.mk (Below.refl w.heap.size w)
  have H : ((incipitlaw15_awake.f k).bind fun t347 => (if (l0.length : Int) > 40 then (incipitlaw15_TableNodes.j0 k l0 l1 t347 true) else (incipitlaw15_TableNodes.j0 k l0 l1 t347 (decide ((l1.length : Int) > 100))))) = some r := h
  clear h
  replace H := Option.bind_eq_some_iff.mp H
  obtain ⟨t347, A30, H⟩ := H
  replace H : (if (l0.length : Int) > 40 then (incipitlaw15_TableNodes.j0 k l0 l1 t347 true) else (incipitlaw15_TableNodes.j0 k l0 l1 t347 (decide ((l1.length : Int) > 100)))) = some r := H
  have A3 := Aside0.mk A30
  clear A30
  have HC4 := Aside0.mk H
  clear H
  go_enter Tryd.func8, Tryd.ntmps8
  go_upto_region 2 with (first | ((with_reducible refine gate_callee (f := 9) rfl ?_); refine goesL_ (some 8) rfl rfl Tryd.func9 (by kernel_rfl) rfl #[] rfl (by (try simp only [List.map_toArray, List.map_cons, List.map_nil]); first | done | rfl | (simp only [List.length_drop, List.length_take]; rfl)) ?_; (with_reducible refine (incipitlaw15_awake.calls k  t347 _ ?side1 A3.out).mono ?_); (case side1 => exact Laid.go hLd (by repeat (first | (with_reducible first | exact HB.out | apply below_alloc | apply pw_below_drewN | apply below_drew1) | exact HB.out))); rintro e w5 ⟨rfl, hb⟩; refine ⟨_, rfl, ?_⟩; have n0_ := Aside0.mk (below_step (by repeat (first | (with_reducible first | exact HB.out | apply below_alloc | apply pw_below_drewN | apply below_drew1) | exact HB.out)) hb); clear HB; have HB := n0_; clear n0_; (try clear hb); (try clear hb2); (try clear hk); (try clear hi)))
  (try simp only [Act.put, List.setIfInBounds_toArray, List.set_cons_zero, List.set_cons_succ])
  go_cut [16] (fun v16 wc => ∃ (kq : Nat) (x16_3 : Bool), v16 = .bool x16_3 ∧ Aside0 (incipitlaw15_TableNodes.j0 kq l0 l1 t347 x16_3 = some r) ∧ Aside0 (kq ≤ k) ∧ Aside0 (Below w.heap.size w wc))
  case first =>
    have H := HC4.out
    clear HC4
    by_cases c6 : (l0.length : Int) > 40
    · rw [if_pos c6] at H
      have c6b0 : decide (40 < (l0.length : Int)) = true := decide_eq_true c6
      have c6b1 : decide (40 < l0.length) = true := decide_eq_true (by omega)
      clear c6
      (first | rw [c6b0] | (simp only [i64_w, i32_w]; rw [c6b0]) | skip)
      have H' := Aside0.mk H
      clear H
      go_wp2
      go_meet
      case rel => exact ⟨_, (true), (by first | rfl | (simp; done) | (simp [*]; done)), H', ⟨by first | omega | exact Nat.le_refl _⟩, ⟨by repeat (first | (with_reducible first | exact HB.out | apply below_alloc | apply pw_below_drewN | apply below_drew1) | exact HB.out)⟩⟩
    · rw [if_neg c6] at H
      have c6b0 : decide (40 < (l0.length : Int)) = false := decide_eq_false c6
      have c6b1 : decide (40 < l0.length) = false := decide_eq_false (by omega)
      clear c6
      (first | rw [c6b0] | (simp only [i64_w, i32_w]; rw [c6b0]) | skip)
      have H' := Aside0.mk H
      clear H
      go_wp2
      go_meet
      case rel => exact ⟨_, (decide ((l1.length : Int) > 100)), (by first | rfl | (simp; done) | (simp [*]; done)), H', ⟨by first | omega | exact Nat.le_refl _⟩, ⟨by repeat (first | (with_reducible first | exact HB.out | apply below_alloc | apply pw_below_drewN | apply below_drew1) | exact HB.out)⟩⟩
  case rest =>
    clear HC4
    try clear c1
    try clear p2
    try clear c6
    try clear c6b0
    try clear c6b1
    obtain ⟨kq, x16_3, rfl, HA, HJ3, HB⟩ := hcut
    cases kq with
    | zero => exact absurd HA.out (by simp [incipitlaw15_TableNodes.j0])
    | succ kj3 =>
      have H := HA.out
      clear HA
      simp only [incipitlaw15_TableNodes.j0] at H
      by_cases c7 : x16_3 = true
      · subst c7
        have H1 : (some t347) = some r := by rw [if_pos rfl] at H; exact H
        clear H
        have H := H1
        clear H1
        obtain rfl := Option.some.inj H
        go_wp2
        go_ret
        exact ⟨by first | rfl | (simp [errW_none, errW_some] <;> rfl) | (simp [*, errW_none, errW_some] <;> rfl), by repeat (first | (with_reducible first | exact HB.out | apply below_alloc | apply pw_below_drewN | apply below_drew1) | exact HB.out)⟩
      · replace c7 := Bool.eq_false_iff.mpr c7
        subst c7
        have H1 : (incipitlaw15_TableNodes.l0 kj3 l0 l1 t347 0) = some r := by rw [if_neg (show ¬ (false = true) by decide)] at H; exact H
        clear H
        have H := H1
        clear H1
        have H' := Aside0.mk H
        clear H
        go_wp2
        go_loopg [6] kj3 (fun kq v6 w' => ∃ (x6_2 : Int), v6 = .int .i64 x6_2 ∧ Aside0 (incipitlaw15_TableNodes.l0 kq l0 l1 t347 x6_2 = some r) ∧ Aside0 (kq ≤ kj3) ∧ Aside0 (Below w.heap.size w w'))
        case atStart => exact ⟨(0), (by first | rfl | (simp; done) | (simp [*]; done)), H', ⟨Nat.le_refl _⟩, ⟨by repeat (first | (with_reducible first | exact HB.out | apply below_alloc | apply pw_below_drewN | apply below_drew1) | exact HB.out)⟩⟩
        case round =>
          clear H'
          try clear c1
          try clear p2
          try clear c6
          try clear c6b0
          try clear c6b1
          try clear c7
          try clear p2
          obtain ⟨x6_2, rfl, HA, HK2, HB⟩ := hrel
          cases gk with
          | zero => exact absurd HA.out (by simp [incipitlaw15_TableNodes.l0])
          | succ k2 =>
            have H := HA.out
            clear HA
            simp only [incipitlaw15_TableNodes.l0] at H
            by_cases c8 : x6_2 < (l0.length : Int)
            · rw [if_pos c8] at H
              have c8b0 : decide (x6_2 < (l0.length : Int)) = true := decide_eq_true c8
              clear c8
              by_cases c9 : 0 ≤ x6_2
              · rw [if_pos c9] at H
                have c9b0 : decide (0 ≤ x6_2) = true := decide_eq_true c9
                clear c9
                by_cases c10 : ((rd_L2 l0 x6_2).length : Int) > 40
                · rw [if_pos c10] at H
                  have c10b0 : decide (40 < ((rd_L2 l0 x6_2).length : Int)) = true := decide_eq_true c10
                  have c10b1 : decide (40 < (rd_L2 l0 x6_2).length) = true := decide_eq_true (by omega)
                  clear c10
                  obtain rfl := Option.some.inj H
                  have p367 : 0 ≤ (x6_2 : Int) := of_decide_eq_true (by first | (with_reducible assumption) | assumption)
                  have q367 : x6_2 < (l0.length : Int) := of_decide_eq_true (by first | (with_reducible assumption) | assumption)
                  obtain ⟨ad367, A367_0, c367_0, e367, hx367_0, hl367_0, hi367_0⟩ := at_L2 HR0.out x6_2 p367 q367
                  cases e367
                  replace hx367_0 := (HB.out.cell (World.block_lt_of_cell? w _ hx367_0)).trans hx367_0
                  have HR367_0 := Aside0.mk hi367_0
                  have HC367_0 := Aside0.mk hl367_0
                  clear hi367_0 hl367_0
                  replace p367 := eq_true p367
                  replace q367 := eq_true q367
                  go_wp2
                  go_ret
                  exact ⟨by first | rfl | (simp [errW_none, errW_some] <;> rfl) | (simp [*, errW_none, errW_some] <;> rfl), by repeat (first | (with_reducible first | exact HB.out | apply below_alloc | apply pw_below_drewN | apply below_drew1) | exact HB.out)⟩
                · rw [if_neg c10] at H
                  have c10b0 : decide (40 < ((rd_L2 l0 x6_2).length : Int)) = false := decide_eq_false c10
                  have c10b1 : decide (40 < (rd_L2 l0 x6_2).length) = false := decide_eq_false (by omega)
                  clear c10
                  have H' := Aside0.mk H
                  clear H
                  have p367 : 0 ≤ (x6_2 : Int) := of_decide_eq_true (by first | (with_reducible assumption) | assumption)
                  have q367 : x6_2 < (l0.length : Int) := of_decide_eq_true (by first | (with_reducible assumption) | assumption)
                  obtain ⟨ad367, A367_0, c367_0, e367, hx367_0, hl367_0, hi367_0⟩ := at_L2 HR0.out x6_2 p367 q367
                  cases e367
                  replace hx367_0 := (HB.out.cell (World.block_lt_of_cell? w _ hx367_0)).trans hx367_0
                  have HR367_0 := Aside0.mk hi367_0
                  have HC367_0 := Aside0.mk hl367_0
                  clear hi367_0 hl367_0
                  replace p367 := eq_true p367
                  replace q367 := eq_true q367
                  go_wp2
                  go_loopg [7] k2 (fun kq v7 w' => ∃ (x7_3 : Int), v7 = .int .i64 x7_3 ∧ Aside0 (incipitlaw15_TableNodes.l1 kq l0 l1 t347 x6_2 x7_3 = some r) ∧ Aside0 (kq ≤ k2) ∧ Aside0 (Below w.heap.size w w'))
                  case atStart => exact ⟨(0), (by first | rfl | (simp; done) | (simp [*]; done)), H', ⟨Nat.le_refl _⟩, ⟨by repeat (first | (with_reducible first | exact HB.out | apply below_alloc | apply pw_below_drewN | apply below_drew1) | exact HB.out)⟩⟩
                  case round =>
                    clear H'
                    try clear c1
                    try clear p2
                    try clear c3
                    try clear p3
                    try clear q3
                    try clear hx3
                    try clear c6
                    try clear c6b0
                    try clear c6b1
                    try clear c7
                    try clear c8
                    try clear c8b0
                    try clear c9
                    try clear c9b0
                    try clear c10
                    try clear c10b0
                    try clear c10b1
                    try clear hx367_0
                    try clear p2
                    try clear p367
                    try clear q367
                    obtain ⟨x7_3, rfl, HA, HK3, HB⟩ := hrel
                    cases gk with
                    | zero => exact absurd HA.out (by simp [incipitlaw15_TableNodes.l1])
                    | succ k3 =>
                      have H := HA.out
                      clear HA
                      simp only [incipitlaw15_TableNodes.l1] at H
                      by_cases c11 : 0 ≤ x6_2
                      · rw [if_pos c11] at H
                        have c11b0 : decide (0 ≤ x6_2) = true := decide_eq_true c11
                        clear c11
                        by_cases c12 : x6_2 < (l0.length : Int)
                        · rw [if_pos c12] at H
                          have c12b0 : decide (x6_2 < (l0.length : Int)) = true := decide_eq_true c12
                          clear c12
                          by_cases c13 : x7_3 < ((rd_L2 l0 x6_2).length : Int)
                          · rw [if_pos c13] at H
                            have c13b0 : decide (x7_3 < ((rd_L2 l0 x6_2).length : Int)) = true := decide_eq_true c13
                            clear c13
                            by_cases c14 : 0 ≤ x7_3
                            · rw [if_pos c14] at H
                              have c14b0 : decide (0 ≤ x7_3) = true := decide_eq_true c14
                              clear c14
                              by_cases c15 : ((rdOf ByteArray.empty (rd_L2 l0 x6_2) x7_3).size : Int) > 300
                              · rw [if_pos c15] at H
                                have c15b0 : decide (300 < ((rdOf ByteArray.empty (rd_L2 l0 x6_2) x7_3).size : Int)) = true := decide_eq_true c15
                                have c15b1 : decide (300 < (rdOf ByteArray.empty (rd_L2 l0 x6_2) x7_3).size) = true := decide_eq_true (by omega)
                                clear c15
                                obtain rfl := Option.some.inj H
                                have p368 : 0 ≤ (x6_2 : Int) := of_decide_eq_true (by first | (with_reducible assumption) | assumption)
                                have q368 : x6_2 < (l0.length : Int) := of_decide_eq_true (by first | (with_reducible assumption) | assumption)
                                obtain ⟨ad368, A368_0, c368_0, e368, hx368_0, hl368_0, hi368_0⟩ := at_L2 HR0.out x6_2 p368 q368
                                obtain rfl : ad367 = ad368 := (by injection e368)
                                replace hx368_0 := (HB.out.cell (World.block_lt_of_cell? w _ hx368_0)).trans hx368_0
                                have HR368_0 := Aside0.mk hi368_0
                                have HC368_0 := Aside0.mk hl368_0
                                clear hi368_0 hl368_0
                                replace p368 := eq_true p368
                                replace q368 := eq_true q368
                                have p369 : 0 ≤ (x6_2 : Int) := of_decide_eq_true (by first | (with_reducible assumption) | assumption)
                                have q369 : x6_2 < (l0.length : Int) := of_decide_eq_true (by first | (with_reducible assumption) | assumption)
                                obtain ⟨ad369, A369_0, c369_0, e369, hx369_0, hl369_0, hi369_0⟩ := at_L2 HR0.out x6_2 p369 q369
                                obtain rfl : ad367 = ad369 := (by injection e369)
                                replace hx369_0 := (HB.out.cell (World.block_lt_of_cell? w _ hx369_0)).trans hx369_0
                                have HR369_0 := Aside0.mk hi369_0
                                have HC369_0 := Aside0.mk hl369_0
                                clear hi369_0 hl369_0
                                replace p369 := eq_true p369
                                replace q369 := eq_true q369
                                have ea_ := Option.some.inj (hx368_0.symm.trans hx369_0)
                                injection ea_ with ea_ en_ ec_
                                subst ea_
                                subst ec_
                                clear en_
                                have p370 : 0 ≤ (x7_3 : Int) := of_decide_eq_true (by first | (with_reducible assumption) | assumption)
                                have q370 : x7_3 < ((rd_L2 l0 x6_2).length : Int) := of_decide_eq_true (by first | (with_reducible assumption) | assumption)
                                obtain ⟨ad370, e370, hx370_0⟩ := Kd.at_string HR369_0.out x7_3 p370 q370
                                cases e370
                                replace hx370_0 := (HB.out.cell (World.block_lt_of_cell? w _ hx370_0)).trans hx370_0
                                replace p370 := eq_true p370
                                replace q370 := eq_true q370
                                go_wp2
                                go_ret
                                exact ⟨by first | rfl | (simp [errW_none, errW_some] <;> rfl) | (simp [*, errW_none, errW_some] <;> rfl), by repeat (first | (with_reducible first | exact HB.out | apply below_alloc | apply pw_below_drewN | apply below_drew1) | exact HB.out)⟩
                              · rw [if_neg c15] at H
                                have c15b0 : decide (300 < ((rdOf ByteArray.empty (rd_L2 l0 x6_2) x7_3).size : Int)) = false := decide_eq_false c15
                                have c15b1 : decide (300 < (rdOf ByteArray.empty (rd_L2 l0 x6_2) x7_3).size) = false := decide_eq_false (by omega)
                                clear c15
                                have H' := Aside0.mk H
                                clear H
                                have p368 : 0 ≤ (x6_2 : Int) := of_decide_eq_true (by first | (with_reducible assumption) | assumption)
                                have q368 : x6_2 < (l0.length : Int) := of_decide_eq_true (by first | (with_reducible assumption) | assumption)
                                obtain ⟨ad368, A368_0, c368_0, e368, hx368_0, hl368_0, hi368_0⟩ := at_L2 HR0.out x6_2 p368 q368
                                obtain rfl : ad367 = ad368 := (by injection e368)
                                replace hx368_0 := (HB.out.cell (World.block_lt_of_cell? w _ hx368_0)).trans hx368_0
                                have HR368_0 := Aside0.mk hi368_0
                                have HC368_0 := Aside0.mk hl368_0
                                clear hi368_0 hl368_0
                                replace p368 := eq_true p368
                                replace q368 := eq_true q368
                                have p369 : 0 ≤ (x6_2 : Int) := of_decide_eq_true (by first | (with_reducible assumption) | assumption)
                                have q369 : x6_2 < (l0.length : Int) := of_decide_eq_true (by first | (with_reducible assumption) | assumption)
                                obtain ⟨ad369, A369_0, c369_0, e369, hx369_0, hl369_0, hi369_0⟩ := at_L2 HR0.out x6_2 p369 q369
                                obtain rfl : ad367 = ad369 := (by injection e369)
                                replace hx369_0 := (HB.out.cell (World.block_lt_of_cell? w _ hx369_0)).trans hx369_0
                                have HR369_0 := Aside0.mk hi369_0
                                have HC369_0 := Aside0.mk hl369_0
                                clear hi369_0 hl369_0
                                replace p369 := eq_true p369
                                replace q369 := eq_true q369
                                have ea_ := Option.some.inj (hx368_0.symm.trans hx369_0)
                                injection ea_ with ea_ en_ ec_
                                subst ea_
                                subst ec_
                                clear en_
                                have p370 : 0 ≤ (x7_3 : Int) := of_decide_eq_true (by first | (with_reducible assumption) | assumption)
                                have q370 : x7_3 < ((rd_L2 l0 x6_2).length : Int) := of_decide_eq_true (by first | (with_reducible assumption) | assumption)
                                obtain ⟨ad370, e370, hx370_0⟩ := Kd.at_string HR369_0.out x7_3 p370 q370
                                cases e370
                                replace hx370_0 := (HB.out.cell (World.block_lt_of_cell? w _ hx370_0)).trans hx370_0
                                replace p370 := eq_true p370
                                replace q370 := eq_true q370
                                go_wp2
                                go_roundg k3
                                case measure => have := HJ3.out; have := HK2.out; have := HK3.out; omega
                                case rel => exact ⟨(wrap64 (x7_3 + 1)), (by first | rfl | (simp; done) | (simp [*]; done)), H', ⟨by have := HJ3.out; have := HK2.out; have := HK3.out; omega⟩, ⟨by repeat (first | (with_reducible first | exact HB.out | apply below_alloc | apply pw_below_drewN | apply below_drew1) | exact HB.out)⟩⟩
                            · rw [if_neg c14] at H
                              exact absurd H (by simp)
                          · rw [if_neg c13] at H
                            have c13b0 : decide (x7_3 < ((rd_L2 l0 x6_2).length : Int)) = false := decide_eq_false c13
                            clear c13
                            have H' := Aside0.mk H
                            clear H
                            have p368 : 0 ≤ (x6_2 : Int) := of_decide_eq_true (by first | (with_reducible assumption) | assumption)
                            have q368 : x6_2 < (l0.length : Int) := of_decide_eq_true (by first | (with_reducible assumption) | assumption)
                            obtain ⟨ad368, A368_0, c368_0, e368, hx368_0, hl368_0, hi368_0⟩ := at_L2 HR0.out x6_2 p368 q368
                            obtain rfl : ad367 = ad368 := (by injection e368)
                            replace hx368_0 := (HB.out.cell (World.block_lt_of_cell? w _ hx368_0)).trans hx368_0
                            have HR368_0 := Aside0.mk hi368_0
                            have HC368_0 := Aside0.mk hl368_0
                            clear hi368_0 hl368_0
                            replace p368 := eq_true p368
                            replace q368 := eq_true q368
                            go_wp2
                            go_roundg k3
                            case measure => have := HJ3.out; have := HK2.out; have := HK3.out; omega
                            case rel => exact ⟨(wrap64 (x6_2 + 1)), (by first | rfl | (simp; done) | (simp [*]; done)), H', ⟨by have := HJ3.out; have := HK2.out; have := HK3.out; omega⟩, ⟨by repeat (first | (with_reducible first | exact HB.out | apply below_alloc | apply pw_below_drewN | apply below_drew1) | exact HB.out)⟩⟩
                        · rw [if_neg c12] at H
                          exact absurd H (by simp)
                      · rw [if_neg c11] at H
                        exact absurd H (by simp)
              · rw [if_neg c9] at H
                exact absurd H (by simp)
            · rw [if_neg c8] at H
              have c8b0 : decide (x6_2 < (l0.length : Int)) = false := decide_eq_false c8
              clear c8
              by_cases c16 : t347 = true
              · subst c16
                have H1 : ((table_Nodes.f k2 l0 l1).bind fun bt348 => ((incipitref15_Nodes.f k2 l0 l1).bind fun bt357 => ((incipitref06_Same.f k2 bt348.1 bt348.2.1 bt348.2.2.1 bt348.2.2.2.1 bt348.2.2.2.2.1 bt348.2.2.2.2.2.1 bt348.2.2.2.2.2.2 bt357.1 bt357.2.1 bt357.2.2.1 bt357.2.2.2.1 bt357.2.2.2.2.1 bt357.2.2.2.2.2.1 bt357.2.2.2.2.2.2).bind fun t366 => (some t366)))) = some r := by rw [if_pos rfl] at H; exact H
                clear H
                have H := H1
                clear H1
                replace H := Option.bind_eq_some_iff.mp H
                obtain ⟨⟨t348, t349, t350, t351, t352, t353, t354⟩, A170, H⟩ := H
                replace H : ((incipitref15_Nodes.f k2 l0 l1).bind fun bt357 => ((incipitref06_Same.f k2 t348 t349 t350 t351 t352 t353 t354 bt357.1 bt357.2.1 bt357.2.2.1 bt357.2.2.2.1 bt357.2.2.2.2.1 bt357.2.2.2.2.2.1 bt357.2.2.2.2.2.2).bind fun t366 => (some t366))) = some r := H
                have A17 := Aside0.mk A170
                clear A170
                replace H := Option.bind_eq_some_iff.mp H
                obtain ⟨⟨t357, t358, t359, t360, t361, t362, t363⟩, A180, H⟩ := H
                replace H : ((incipitref06_Same.f k2 t348 t349 t350 t351 t352 t353 t354 t357 t358 t359 t360 t361 t362 t363).bind fun t366 => (some t366)) = some r := H
                have A18 := Aside0.mk A180
                clear A180
                replace H := Option.bind_eq_some_iff.mp H
                obtain ⟨t366, A190, H⟩ := H
                replace H : (some t366) = some r := H
                have A19 := Aside0.mk A190
                clear A190
                obtain rfl := Option.some.inj H
                go_wp2_with (first | (go_at_call 20; (with_reducible refine (table_Nodes.calls k2 _ _ l0 _ _ l1 t348 t349 t350 t351 t352 t353 t354 _ ?side1 ?side2 ?side3 ?side4 A17.out).mono ?_); (case side1 => repeat (first | exact (Kd.C_below HR0.out HB.out) | (with_reducible refine Kd.C_alloc ?_ _) | (with_reducible refine Kd.C_drewN ?_ _) | (with_reducible refine Kd.C_drew ?_))); (case side2 => exact HC0.out); (case side3 => repeat (first | exact (Kd.C_below HR1.out HB.out) | (with_reducible refine Kd.C_alloc ?_ _) | (with_reducible refine Kd.C_drewN ?_ _) | (with_reducible refine Kd.C_drew ?_))); (case side4 => exact HC1.out); rintro e w20 ⟨v355, rfl, ho0, hb⟩; have n0_ := Aside0.mk (Kd.R_lower ho0 (below_size (by repeat (first | (with_reducible first | exact HB.out | apply below_alloc | apply pw_below_drewN | apply below_drew1) | exact HB.out)))); have n1_ := Aside0.mk (below_step (by repeat (first | (with_reducible first | exact HB.out | apply below_alloc | apply pw_below_drewN | apply below_drew1) | exact HB.out)) hb); clear HB; have HO356 := n0_; have HB := n1_; clear n0_ n1_; (try clear hb); (try clear hb2); (try clear hk); (try clear hi); (try clear ho0)) | (go_at_call 21; (with_reducible refine (incipitref15_Nodes.calls k2 _ _ l0 _ _ l1 t357 t358 t359 t360 t361 t362 t363 _ ?side1 ?side2 ?side3 ?side4 A18.out).mono ?_); (case side1 => repeat (first | exact (Kd.C_below HR0.out HB.out) | (with_reducible refine Kd.C_alloc ?_ _) | (with_reducible refine Kd.C_drewN ?_ _) | (with_reducible refine Kd.C_drew ?_))); (case side2 => exact HC0.out); (case side3 => repeat (first | exact (Kd.C_below HR1.out HB.out) | (with_reducible refine Kd.C_alloc ?_ _) | (with_reducible refine Kd.C_drewN ?_ _) | (with_reducible refine Kd.C_drew ?_))); (case side4 => exact HC1.out); rintro e w21 ⟨v364, rfl, ho0, hb⟩; have n0_ := Aside0.mk (Kd.R_elder' (by (with_reducible repeat (first | apply Kd.R_alloc | apply Kd.R_drewN | apply Kd.R_drew)); exact HO356.out) (Kd.R_base ho0) hb); have n1_ := Aside0.mk (Kd.R_lower (Kd.R_new' ho0 (Kd.R_lt (by (with_reducible repeat (first | apply Kd.R_alloc | apply Kd.R_drewN | apply Kd.R_drew)); exact HO356.out))) (below_size (by repeat (first | (with_reducible first | exact HB.out | apply below_alloc | apply pw_below_drewN | apply below_drew1) | exact HB.out)))); have n2_ := Aside0.mk (below_step (by repeat (first | (with_reducible first | exact HB.out | apply below_alloc | apply pw_below_drewN | apply below_drew1) | exact HB.out)) hb); clear HO356; clear HB; have HO356 := n0_; have HO365 := n1_; have HB := n2_; clear n0_ n1_ n2_; (try clear hb); (try clear hb2); (try clear hk); (try clear hi); (try clear ho0); obtain ⟨Ao22, co22, eo22⟩ := Kd.R_slice HO356.out; subst eo22; obtain ⟨Ao23, co23, eo23⟩ := Kd.R_slice HO365.out; subst eo23) | (go_at_call 19; (with_reducible refine (incipitref06_Same.calls k2 t348 t349 t350 t351 t352 t353 _ _ t354 t357 t358 t359 t360 t361 t362 _ _ t363 t366 _ ?side1 ?side2 ?side3 ?side4 A19.out).mono ?_); (case side1 => repeat (first | exact (Kd.R_reads' HO356.out).2.2 | (with_reducible refine Kd.C_alloc ?_ _) | (with_reducible refine Kd.C_drewN ?_ _) | (with_reducible refine Kd.C_drew ?_))); (case side2 => exact (Kd.R_reads' HO356.out).2.1); (case side3 => repeat (first | exact (Kd.R_reads' HO365.out).2.2 | (with_reducible refine Kd.C_alloc ?_ _) | (with_reducible refine Kd.C_drewN ?_ _) | (with_reducible refine Kd.C_drew ?_))); (case side4 => exact (Kd.R_reads' HO365.out).2.1); rintro e w24 ⟨rfl, hb⟩; have n0_ := Aside0.mk (Kd.R_below (by (with_reducible repeat (first | apply Kd.R_alloc | apply Kd.R_drewN | apply Kd.R_drew)); exact HO356.out) hb); have n1_ := Aside0.mk (Kd.R_below (by (with_reducible repeat (first | apply Kd.R_alloc | apply Kd.R_drewN | apply Kd.R_drew)); exact HO365.out) hb); have n2_ := Aside0.mk (below_step (by repeat (first | (with_reducible first | exact HB.out | apply below_alloc | apply pw_below_drewN | apply below_drew1) | exact HB.out)) hb); clear HO356; clear HO365; clear HB; have HO356 := n0_; have HO365 := n1_; have HB := n2_; clear n0_ n1_ n2_; (try clear hb); (try clear hb2); (try clear hk); (try clear hi)))
                go_ret
                exact ⟨by first | rfl | (simp [errW_none, errW_some] <;> rfl) | (simp [*, errW_none, errW_some] <;> rfl), by repeat (first | (with_reducible first | exact HB.out | apply below_alloc | apply pw_below_drewN | apply below_drew1) | exact HB.out)⟩
              · replace c16 := Bool.eq_false_iff.mpr c16
                subst c16
                have H1 : (some false) = some r := by rw [if_neg (show ¬ (false = true) by decide)] at H; exact H
                clear H
                have H := H1
                clear H1
                obtain rfl := Option.some.inj H
                go_wp2
                go_ret
                exact ⟨by first | rfl | (simp [errW_none, errW_some] <;> rfl) | (simp [*, errW_none, errW_some] <;> rfl), by repeat (first | (with_reducible first | exact HB.out | apply below_alloc | apply pw_below_drewN | apply below_drew1) | exact HB.out)⟩

end Go.Proofs.YthbadcdiagcfkaaDoor.PA

namespace Go.Proofs.YthbadcdiagcfkaaDoor.Pure
open Go.RowKit Go.Proofs.YthbadcdiagcfkaaDoorW.PrintWords Go.Proofs.YthbadcdiagcfkaaDoorW.PrintMore Go.Proofs.YthbadcdiagcfkaaDoor.Pl Go.Proofs.YthbadcdiagcfkaaDoor.PA
set_option linter.unusedVariables false

theorem awake_e : Ev (fun k => incipitlaw15_awake.f k) true := Ev.of (k := 60) (incipitlaw15_awake.mono) (by decide +kernel)
mutual
/-- Rows that are not too long, at any depth. -/
def sm1 : Nd → Prop
  | ⟨_, _, _, _, _, _, l⟩ => l.length ≤ 1099511627776 ∧ smL l
def smL : List Nd → Prop
  | [] => True
  | x :: r => sm1 x ∧ smL r
end
theorem own_f (x : Nd) : incipitref06_Own.f x.f0 x.f1 x.f2 x.f3 x.f4 x.f5 x.f6 x.f0 x.f1 x.f2 x.f3 x.f4 x.f5 x.f6 = some true := by
  unfold incipitref06_Own.f
  rw [if_pos rfl, if_pos rfl, if_pos rfl, if_pos rfl, if_pos rfl, beq_self_eq_true]
mutual
theorem same_1 : ∀ x : Nd, sm1 x → Ev (fun k => incipitref06_Same.f k x.f0 x.f1 x.f2 x.f3 x.f4 x.f5 x.f6 x.f0 x.f1 x.f2 x.f3 x.f4 x.f5 x.f6) true
  | ⟨a, s, t, n, mm, fl, l⟩, h => by
    rw [sm1] at h
    have hl := same_L l l 0 a s t n mm fl rfl h.1 h.2
    have hj : Ev (fun k => incipitref06_Same.j0 k false a s t n mm fl l a s t n mm fl l) true := Ev.step (fun k => by rw [incipitref06_Same.j0, if_neg (by simp)]; rfl) hl
    refine Ev.step (fun k => ?_) hj
    have ho := own_f ⟨a, s, t, n, mm, fl, l⟩
    dsimp only at ho ⊢
    rw [incipitref06_Same.f, ho, Option.bind_some, if_pos rfl]
    simp
theorem same_L : ∀ (l L : List Nd) (i : Nat) (a : Int) (s t : ByteArray) (n mm : Int) (fl : Bool), L.drop i = l → L.length ≤ 1099511627776 → smL l → Ev (fun k => incipitref06_Same.l0 k (i : Int) a s t n mm fl L a s t n mm fl L) true
  | [], L, i, a, s, t, n, mm, fl, hl, _, _ => by
    have := List.drop_eq_nil_iff.1 hl
    refine Ev.step (f := fun _ => some true) (fun k => ?_) (Ev.now _)
    rw [incipitref06_Same.l0, if_neg (by omega)]
  | y :: r, L, i, a, s, t, n, mm, fl, hl, hL, hs => by
    rw [smL] at hs
    have hil : i < L.length := by
      refine Nat.lt_of_not_le fun h => ?_
      rw [List.drop_eq_nil_iff.2 h] at hl
      cases hl
    rw [List.drop_eq_getElem_cons hil, List.cons.injEq] at hl
    have h1 := same_1 y hs.1
    have hn := same_L r L (i + 1) a s t n mm fl hl.2 hL hs.2
    refine Ev.step (f := fun k => (incipitref06_Same.f k y.f0 y.f1 y.f2 y.f3 y.f4 y.f5 y.f6 y.f0 y.f1 y.f2 y.f3 y.f4 y.f5 y.f6).bind fun t313 => if t313 = true then incipitref06_Same.l0 k ((i + 1 : Nat) : Int) a s t n mm fl L a s t n mm fl L else some false) (fun k => ?_) ?_
    · rw [incipitref06_Same.l0, if_pos (by omega), if_pos (by omega), if_pos (by omega), rd_at hil, hl.1, w64 (by omega) (by omega)]
      rfl
    · refine Ev.bind h1 ?_
      exact Ev.congr (fun k => if_pos rfl) hn
end
theorem sm_cls (al : List Int) (hd : Bool) : ∀ (l : List ByteArray) (j : Nat), smL (cls al hd j l)
  | [], j => by rw [cls, smL]; trivial
  | s :: r, j => by
    rw [cls, smL, cel, sm1, smL]
    exact ⟨⟨Nat.zero_le _, trivial⟩, sm_cls al hd r (j + 1)⟩
theorem sm_rws (al : List Int) : ∀ (l : List (List ByteArray)) (i : Nat), (∀ r ∈ l, r.length ≤ 1000) → smL (rws al i l)
  | [], i, _ => by rw [rws, smL]; trivial
  | s :: r, i, h => by
    rw [rws, smL, rwn, sm1]
    have := h s List.mem_cons_self
    exact ⟨⟨by rw [cls_len]; omega, sm_cls _ _ _ _⟩, sm_rws al r (i + 1) fun x hx => h x (List.mem_cons_of_mem _ hx)⟩
theorem rdL {L : List (List ByteArray)} {i : Nat} (h : i < L.length) : rd_L2 L (i : Int) = L[i] := by
  unfold rd_L2
  rw [Int.toNat_natCast, List.getD_eq_getElem?_getD, List.getElem?_eq_getElem h]
  rfl
/-- A row's cells. -/
theorem tn_in (L : List (List ByteArray)) (al : List Int) (i : Nat) (hi : i < L.length) (hL : L.length ≤ 40) (hz : L[i].length ≤ 40) (hn : Ev (fun k => incipitlaw15_TableNodes.l0 k L al true ((i + 1 : Nat) : Int)) true) :
    ∀ (d j : Nat), j + d = L[i].length → Ev (fun k => incipitlaw15_TableNodes.l1 k L al true (i : Int) (j : Int)) true := by
  intro d
  induction d with
  | zero =>
    intro j hj
    refine Ev.step (fun k => ?_) hn
    rw [incipitlaw15_TableNodes.l1, if_pos (by omega), if_pos (by omega), rdL hi, if_neg (by omega), w64 (by omega) (by omega)]
    rfl
  | succ d ih =>
    intro j hj
    by_cases hs : ((rdOf ByteArray.empty L[i] (j : Int)).size : Int) > 300
    · refine Ev.step (f := fun _ => some true) (fun k => ?_) (Ev.now _)
      rw [incipitlaw15_TableNodes.l1, if_pos (by omega), if_pos (by omega), rdL hi, if_pos (by omega), if_pos (by omega), if_pos hs]
    · refine Ev.step (fun k => ?_) (ih (j + 1) (by omega))
      rw [incipitlaw15_TableNodes.l1, if_pos (by omega), if_pos (by omega), rdL hi, if_pos (by omega), if_pos (by omega), if_neg hs, w64 (by omega) (by omega)]
      rfl
theorem tn_l (L : List (List ByteArray)) (al : List Int) (hL : L.length ≤ 40) : ∀ (d i : Nat), i + d = L.length → (∀ r ∈ L.take i, r.length ≤ 40) → Ev (fun k => incipitlaw15_TableNodes.l0 k L al true (i : Int)) true := by
  intro d
  induction d with
  | zero =>
    intro i hi hr
    obtain rfl : i = L.length := by omega
    rw [List.take_length] at hr
    have ha : ∀ r ∈ L, r.length ≤ 1000 := fun r h => Nat.le_trans (hr r h) (by omega)
    have hs := same_1 ⟨10, ⟨#[]⟩, ⟨#[]⟩, 0, 0, false, rws al 0 L⟩ (by rw [sm1]; exact ⟨by rw [rws_len]; omega, sm_rws al L 0 ha⟩)
    refine Ev.step (fun k => ?_) hs
    rw [incipitlaw15_TableNodes.l0, if_neg (by omega), if_pos rfl]
    unfold table_Nodes.f incipitref15_Nodes.f
    rw [if_pos ⟨by omega, ha⟩, Option.bind_some, Option.bind_some]
    cases incipitref06_Same.f k 10 (⟨#[]⟩ : ByteArray) (⟨#[]⟩ : ByteArray) 0 0 false (rws al 0 L) 10 (⟨#[]⟩ : ByteArray) (⟨#[]⟩ : ByteArray) 0 0 false (rws al 0 L) <;> rfl
  | succ d ih =>
    intro i hi hr
    have hil : i < L.length := by omega
    by_cases hz : L[i].length ≤ 40
    · have hn := ih (i + 1) (by omega) (by
        intro r h
        rw [List.take_add_one, List.getElem?_eq_getElem hil] at h
        rcases List.mem_append.1 h with h | h
        · exact hr r h
        · simp at h; rw [h]; exact hz)
      refine Ev.step (fun k => ?_) (tn_in L al i hil hL hz hn L[i].length 0 (by omega))
      rw [incipitlaw15_TableNodes.l0, if_pos (by omega), if_pos (by omega), rdL hil, if_neg (by omega)]
      rfl
    · refine Ev.step (f := fun _ => some true) (fun k => ?_) (Ev.now _)
      rw [incipitlaw15_TableNodes.l0, if_pos (by omega), if_pos (by omega), rdL hil, if_pos (by omega)]
theorem TableNodes : ∀ (l0 : List (List ByteArray)) (l1 : List Int), l1.length ≤ 140737488351232 → (∀ x ∈ l1, (Lit.int .i64 x).wf = true) → ∃ k, PA.incipitlaw15_TableNodes.f k l0 l1 = some true := by
  intro l0 l1 _ _
  apply Ev.rounds
  unfold incipitlaw15_TableNodes.f
  refine Ev.bind awake_e ?_
  have hyes : Ev (fun k => incipitlaw15_TableNodes.j0 k l0 l1 true true) true := Ev.step (f := fun _ => some true) (fun k => by rw [incipitlaw15_TableNodes.j0, if_pos rfl]) (Ev.now _)
  by_cases h0 : (l0.length : Int) > 40
  · exact Ev.congr (fun k => if_pos h0) hyes
  · refine Ev.congr (fun k => if_neg h0) ?_
    by_cases h1 : (l1.length : Int) > 100
    · rw [decide_eq_true h1]; exact hyes
    · rw [decide_eq_false h1]
      refine Ev.step (fun k => ?_) (tn_l l0 l1 (by omega) l0.length 0 (by omega) (by simp))
      rw [incipitlaw15_TableNodes.j0, if_neg (by simp)]
      rfl
end Go.Proofs.YthbadcdiagcfkaaDoor.Pure

namespace Go.Proofs.YthbadcdiagcfkaaDoor.tableNodes
open Go.ChangeShapes Go.WideShapes Go.ChangeAt Go.RowKit Go.Proofs.YthbadcdiagcfkaaDoorW.PrintWords Go.Proofs.YthbadcdiagcfkaaDoor.RowU8
open Go.ChangeMaps (open_string shut_string)
set_option linter.unusedVariables false
set_option maxRecDepth 100000 in
theorem contract (H : Type) (enc : TypeId × Value → H) (W : World) (base : Nat) (args : Array Value) (ds gs : List (DataW H)) (before : List MemPlace)
    (hval0 : ∀ (j : Nat) t v, Tryd.f8.params[j]? = some t → args[j]? = some v → Value.okWide Tryd.prog W .any base t v)
    (hW : DataW.Whole enc Tryd.prog Tryd.f8.params.toList Rows.tableNodesSpec.vars false W args.toList ds gs before) (hsz0 : (DataW.weightsEach Tryd.prog (Tryd.f8.params.toList ++ (OpenSpec.ofChange Rows.tableNodesSpec).bare.plain.varTypes Tryd.prog) (ds ++ gs)).all (· ≤ reachBytes) = true) (hSh : W.ShapedOpen Tryd.prog) :
    Calls Tryd.prog 8 args W fun e W' => ∃ v, e = .returned v ∧ Rows.tableNodesSpec.post enc Tryd.prog Tryd.f8 false true false false W args v W' := by
  have hsz : (DataW.weightsEach Tryd.prog (Tryd.f8.params.toList ++ Rows.tableNodesSpec.plain.varTypes Tryd.prog) (ds ++ gs)).all (· ≤ reachBytes) = true := hsz0
  have hval : ∀ (j : Nat) t v, Tryd.f8.params[j]? = some t → args[j]? = some v → Value.okWide Tryd.prog W .any base t v := hval0
  have hW' := hW
  obtain ⟨p, q, hA0, hV, rfl, hfz, hnd⟩ := hW
  have hA : DataW.TrodAll enc Tryd.prog W 0 (fun _ => true) true Tryd.f8.params.toList args.toList ds p := hA0
  rw [Tryd.params8] at hA hval hsz
  obtain ⟨v0, vs0, d0, ds0, p0, q0, hargs, rfl, rfl, h0, r0⟩ := trodAll_cons hA
  obtain ⟨v1, vs1, d1, ds1, p1, q1, rfl, rfl, rfl, h1, r1⟩ := trodAll_cons r0
  obtain ⟨rfl, rfl, rfl⟩ := trodAll_nil r1
  obtain rfl : args = #[v0, v1] := by cases args; simp_all
  obtain ⟨rfl, rfl⟩ := trodVars_none hV
  obtain ⟨a0, len0, cap0, rfl⟩ := okWide_slice Tryd.underlying31 (hval 0 31 v0 rfl rfl)
  have k0 := h0
  have lt0 : ∀ x ∈ p0, x.block < W.heap.size := by obtain ⟨m, hm⟩ := k0; exact DataW.trod_lt m _ _ _ hm
  obtain ⟨l0, rfl, hc0, hr0⟩ : ∃ l : List (List ByteArray), len0 = l.length ∧ l.length ≤ cap0 ∧ Kd.C (Kd.slice 9 Kd.string) W a0 l.length l := by
    obtain ⟨fuel, hf⟩ := h0
    exact strss_row hf
  obtain ⟨a1, len1, cap1, rfl⟩ := okWide_slice Tryd.underlying23 (hval 1 23 v1 rfl rfl)
  have k1 := h1
  have lt1 : ∀ x ∈ p1, x.block < W.heap.size := by obtain ⟨m, hm⟩ := k1; exact DataW.trod_lt m _ _ _ hm
  obtain ⟨z1, w1⟩ : ∃ zs, IsRow .i64 W a1 len1 cap1 zs := by
    obtain ⟨fuel, hf⟩ := h1
    rcases open_ints Tryd.underlying23 Tryd.underlying3 (by kernel_rfl) hf with ⟨hcs, _⟩ | ⟨x, l, c, zs, hcs, _, hl, hm, hz, _, hcell, hwz⟩
    · simp [Value.cells] at hcs
      obtain ⟨rfl, rfl, rfl⟩ := hcs
      exact ⟨[], .inl ⟨rfl, rfl, rfl, rfl⟩⟩
    · simp [Value.cells] at hcs
      obtain ⟨rfl, rfl, rfl⟩ := hcs
      exact ⟨zs, .inr ⟨_, rfl, hl, hm, by simpa using hz, hcell, hwz⟩⟩
  have y1 : len1 * 8 ≤ 140737488351232 := sized_any hsz (j := 1) (t := 23) rfl rfl Tryd.underlying23 (by kernel_rfl) h1
  obtain ⟨l1, rfl, hr1, hm1, hw1, hc1⟩ := ReadsInt.ofRowC w1
  clear hA0 hval0 hsz0 hsz
  obtain ⟨k, hp⟩ := Pure.TableNodes l0 l1 (by omega) hw1
  refine (PA.incipitlaw15_TableNodes.calls k _ _ l0 _ _ l1 true W (laidOf hSh) hr0 hc0 (Kd.C_of_reads (d := (0 : Int)) (h1 := fun _ => rfl) hr1) hc1 hp).mono ?_
  rintro e W' ⟨rfl, bel⟩
  exact ⟨_, rfl, _, _, _, [], _, [], hW', trodAll_mk1 (shut_bool Tryd.underlying4 _), (trodAll_cons_mk (Below.trod laidOut (by kernel_rfl) (of_decide_eq_true (by kernel_rfl)) k0 bel lt0) (trodAll_cons_mk (Below.trod laidOut (by kernel_rfl) (of_decide_eq_true (by kernel_rfl)) k1 bel lt1) trodAll_mk0)), rfl, bel.frame _, fun h => by cases h⟩
theorem laid_met (os : Os) : laidMet Tryd.prog Rows.tableNodesRow.laid ((laidWorld os).forCall (fun _ _ => 0) ⟨#[], #[.slice none 0 0, .slice none 0 0], []⟩).memory :=
  laidMet_of_run' 8 (by kernel_rfl) (by kernel_rfl)
theorem reads (os : Os) {H : Type} (enc : TypeId × Value → H) : ∃ places, DataW.whole enc Tryd.prog ((laidWorld os).forCall (fun _ _ => 0) ⟨#[], #[.slice none 0 0, .slice none 0 0], []⟩).memory Tryd.f8.params.toList Rows.tableNodesSpec.vars false (#[.slice none 0 0, .slice none 0 0] : Array Value).toList 8 = some ([.nil, .nil], [], places) :=
  ⟨[], by kernel_rfl⟩
set_option maxRecDepth 100000 in
theorem lifted (os : Os) (started : os.Started) (H : Type) (enc : TypeId × Value → H) (F : Stop.Interp) :
    ReturnsInHanded {} Tryd.checked os 8 .any ((OpenSpec.ofChange Rows.tableNodesSpec).preRow enc Tryd.prog Tryd.f8 Rows.tableNodesRow.domain false Rows.tableNodesRow.laid) (((OpenSpec.ofChange Rows.tableNodesSpec).at F).post enc Tryd.prog Tryd.f8 false true false false) := by
  obtain ⟨places, hx⟩ := reads os enc
  refine returnsInHanded_of_row (C := Tryd.checked) (s := OpenSpec.ofChange Rows.tableNodesSpec) own started (by kernel_rfl) Tryd.func8
    (witness_row_at (enc := enc) (C := Tryd.checked) false (laidWorld os) #[.slice none 0 0, .slice none 0 0] rfl (by kernel_rfl) (by kernel_rfl) (by kernel_rfl)
      (OpenSpec.preRow_of_cond 8 hx (by kernel_rfl) (fun k hk => by cases hk) (by kernel_rfl) (laid_met os))) ?_
  intro W base args ds gs before hval hW _ _ hsz hL hSh _
  exact contract H enc W base args ds gs before hval hW hsz hSh
theorem said : Rows.TableNodesSaid :=
  OpenClaim.holds_of_cond 8 Tryd.f8 rfl rfl rfl rfl rfl rfl rfl ⟨rfl, rfl, rfl, rfl, rfl⟩ rfl rfl rfl rfl rfl (by kernel_rfl) Tryd.func8 (by kernel_rfl)
    (of_decide_eq_true (by kernel_rfl)) (by unfold Func.isWrapper; first | (rw [if_pos (by decide +kernel)]; kernel_rfl) | (rw [if_neg (by decide +kernel)]; exact ⟨rfl, rfl⟩))
    (fun os started H enc _ F => by rw [OpenClaim.pre_eq_preRow]; exact lifted os started H enc F)
theorem plain (f : FuncId) (fn : Func) (hf : Tryd.pinned.checked.prog.funcNamed "incipit/incipitlaw15.TableNodes" = some f) (hfn : Tryd.pinned.checked.prog.funcs[f]? = some fn) :
    false = Tryd.pinned.checked.prog.looks [] ∧ ∀ (j : Nat) t, fn.params[j]? = some t → Tryd.pinned.checked.prog.wantsStandIn t = false := by
  obtain rfl : f = 8 := Option.some.inj ((show Tryd.prog.funcNamed "incipit/incipitlaw15.TableNodes" = some 8 by kernel_rfl).symm.trans hf) |>.symm
  obtain rfl : fn = Tryd.f8 := (Option.some.inj (Tryd.func8.symm.trans hfn)).symm
  refine ⟨by kernel_rfl, fun j t ht => ?_⟩
  rw [Tryd.params8] at ht
  have hall : ∀ t ∈ (#[31, 23] : Array Nat), Tryd.prog.wantsStandIn t = false := by
    intro t ht
    simp at ht
    rcases ht with rfl | rfl
    · exact (show Tryd.prog.wantsStandIn 31 = false by kernel_rfl)
    · exact (show Tryd.prog.wantsStandIn 23 = false by kernel_rfl)
  exact hall t (Array.mem_of_getElem? ht)
theorem card : Rows.TableNodesCardSaid :=
  Claim7.holds_tied_plain_at .later [] _ _ _ _ said (fun _ h => by cases h) (by kernel_rfl) (fun _ h => by cases h) tableNodes_row_tie rfl ⟨rfl, rfl⟩ (by kernel_rfl) rfl plain (by kernel_rfl)
end Go.Proofs.YthbadcdiagcfkaaDoor.tableNodes
namespace Go.Proofs.YthbadcdiagcfkaaDoor
/-- The statement, under a short name, for the claim. -/
theorem tableNodes_holds : Rows.TableNodesCardSaid := tableNodes.card
end Go.Proofs.YthbadcdiagcfkaaDoor
