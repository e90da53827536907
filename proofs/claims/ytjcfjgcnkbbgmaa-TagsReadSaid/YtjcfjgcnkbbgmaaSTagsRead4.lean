/-
  Texts of the proof of TagsRead, part 4 of 6: contracts and plain laws. Conditions: see each statement.
-/
import Derived.Test.YtjcfjgcnkbbgmaaSTagsRead1
import Derived.Test.YtjcfjgcnkbbgmaaSTagsRead3
import Derived.Lib.Hide
set_option linter.unusedVariables false
namespace Go.Proofs.Ytjcfjgcnkbbgmaa.PA
open Go.RowKit Go.Proofs.YtjcfjgcnkbbgmaaW.PrintWords Go.Proofs.YtjcfjgcnkbbgmaaW.PrintLast Go.Proofs.YtjcfjgcnkbbgmaaW.PrintMore
attribute [local go_sem] max2_int min2_int max_two min_two max_three min_three max_four min_four   -- for this text's walks alone
set_option linter.unusedVariables false
set_option linter.unusedSimpArgs false

/-! ### incipitref21_Read: function 9 -/
mutual
def incipitref21_Read.j0 : Nat → ByteArray → Bool → Option (ByteArray × Bool × Bool × (List (S45)) × Int)
  | 0, _, _ => none
  | k + 1, x0, x39 => if x39 = true then (some ((⟨#[]⟩ : ByteArray), false, false, ([] : List (S45)), 0)) else (if 1 ≤ (x0.size : Int) then ((incipitref21_name.f k (x0.extract 1 x0.size) false).bind fun t182 => (if t182 = 0 then (some ((⟨#[]⟩ : ByteArray), false, false, ([] : List (S45)), 0)) else (if 1 ≤ (wrap64 (1 + t182)) then (if (wrap64 (1 + t182)) ≤ (x0.size : Int) then (incipitref21_Read.l0 k x0 (wrap64 (1 + t182)) (x0.extract 1 ((wrap64 (1 + t182)) : Int).toNat) false false ([] : List (S45))) else (none)) else (none)))) else (none))
def incipitref21_Read.l0 : Nat → ByteArray → Int → ByteArray → Bool → Bool → List (S45) → Option (ByteArray × Bool × Bool × (List (S45)) × Int)
  | 0, _, _, _, _, _, _ => none
  | k + 1, x0, x7, x184000, x184001, x184002, x184003 => if 0 ≤ x7 then (if x7 ≤ (x0.size : Int) then ((incipitref21_attribute.f k (x0.extract (x7 : Int).toNat x0.size)).bind fun bt184 => (if bt184.2.2 = 0 then ((incipitref08_Begins.f (x0.extract (x7 : Int).toNat x0.size) (⟨#[62]⟩ : ByteArray)).bind fun t191 => (if t191 = true then (some (x184000, x184001, x184002, x184003, wrap64 (x7 + 1))) else ((incipitref08_Begins.f (x0.extract (x7 : Int).toNat x0.size) (⟨#[32, 47, 62]⟩ : ByteArray)).bind fun t192 => (if t192 = true then (some (x184000, x184001, true, x184003, wrap64 (x7 + 3))) else (some ((⟨#[]⟩ : ByteArray), false, false, ([] : List (S45)), 0)))))) else (if x184003.length < 4398046511104 then (incipitref21_Read.l0 k x0 (wrap64 (x7 + bt184.2.2)) x184000 x184001 x184002 (x184003 ++ [(⟨bt184.1, bt184.2.1⟩ : S45)])) else (none)))) else (none)) else (none)
end
def incipitref21_Read.f (k : Nat) (a0 : ByteArray) : Option (ByteArray × Bool × Bool × (List (S45)) × Int) := (incipitref08_Begins.f a0 (⟨#[60, 47]⟩ : ByteArray)).bind fun t179 => (if t179 = true then (if 2 ≤ (a0.size : Int) then ((incipitref21_name.f k (a0.extract 2 a0.size) false).bind fun t180 => (if t180 = 0 then (some ((⟨#[]⟩ : ByteArray), false, false, ([] : List (S45)), 0)) else (if 0 ≤ (wrap64 (2 + t180)) then (if (wrap64 (2 + t180)) ≤ (a0.size : Int) then ((incipitref08_Begins.f (a0.extract ((wrap64 (2 + t180)) : Int).toNat a0.size) (⟨#[62]⟩ : ByteArray)).bind fun t181 => (if t181 = true then (if 2 ≤ (wrap64 (2 + t180)) then (some (a0.extract 2 ((wrap64 (2 + t180)) : Int).toNat, true, false, ([] : List (S45)), wrap64 (t180 + 3))) else (none)) else (some ((⟨#[]⟩ : ByteArray), false, false, ([] : List (S45)), 0)))) else (none)) else (none)))) else (none)) else (if a0.toList = ([] : List UInt8) then (incipitref21_Read.j0 k a0 true) else (if 0 < (a0.size : Int) then (incipitref21_Read.j0 k a0 ((bt a0 0) != 60)) else (none))))
set_option maxHeartbeats 8000000 in
set_option maxRecDepth 100000 in
theorem incipitref21_Read.calls (k : Nat) (a0 : ByteArray) (r1 : ByteArray) (r2 : Bool) (r3 : Bool) (r4 : List (S45)) (r5 : Int) (w : World) (h : incipitref21_Read.f k a0 = some (r1, r2, r3, r4, r5)) :
    Calls Try.prog 9 #[.string a0] w fun e w' => ∃ v3_ : Value, e = .returned (.tuple #[.agg #[.string r1, .bool r2, .bool r3, v3_], .int .i64 r5]) ∧ Kd.R k45 45 w' w.heap.size (fun _ => True) v3_ r4 ∧ Below w.heap.size w w' := by
  have hu28 := Try.underlying28
  have hu45 := Try.underlying45
  have HB := Aside0.mk (Below.refl w.heap.size w)
  have H : ((incipitref08_Begins.f a0 (⟨#[60, 47]⟩ : ByteArray)).bind fun t179 => (if t179 = true then (if 2 ≤ (a0.size : Int) then ((incipitref21_name.f k (a0.extract 2 a0.size) false).bind fun t180 => (if t180 = 0 then (some ((⟨#[]⟩ : ByteArray), false, false, ([] : List (S45)), 0)) else (if 0 ≤ (wrap64 (2 + t180)) then (if (wrap64 (2 + t180)) ≤ (a0.size : Int) then ((incipitref08_Begins.f (a0.extract ((wrap64 (2 + t180)) : Int).toNat a0.size) (⟨#[62]⟩ : ByteArray)).bind fun t181 => (if t181 = true then (if 2 ≤ (wrap64 (2 + t180)) then (some (a0.extract 2 ((wrap64 (2 + t180)) : Int).toNat, true, false, ([] : List (S45)), wrap64 (t180 + 3))) else (none)) else (some ((⟨#[]⟩ : ByteArray), false, false, ([] : List (S45)), 0)))) else (none)) else (none)))) else (none)) else (if a0.toList = ([] : List UInt8) then (incipitref21_Read.j0 k a0 true) else (if 0 < (a0.size : Int) then (incipitref21_Read.j0 k a0 ((bt a0 0) != 60)) else (none))))) = some (r1, r2, r3, r4, r5) := h
  clear h
  replace H := Option.bind_eq_some_iff.mp H
  obtain ⟨t179, A20, H⟩ := H
  replace H : (if t179 = true then (if 2 ≤ (a0.size : Int) then ((incipitref21_name.f k (a0.extract 2 a0.size) false).bind fun t180 => (if t180 = 0 then (some ((⟨#[]⟩ : ByteArray), false, false, ([] : List (S45)), 0)) else (if 0 ≤ (wrap64 (2 + t180)) then (if (wrap64 (2 + t180)) ≤ (a0.size : Int) then ((incipitref08_Begins.f (a0.extract ((wrap64 (2 + t180)) : Int).toNat a0.size) (⟨#[62]⟩ : ByteArray)).bind fun t181 => (if t181 = true then (if 2 ≤ (wrap64 (2 + t180)) then (some (a0.extract 2 ((wrap64 (2 + t180)) : Int).toNat, true, false, ([] : List (S45)), wrap64 (t180 + 3))) else (none)) else (some ((⟨#[]⟩ : ByteArray), false, false, ([] : List (S45)), 0)))) else (none)) else (none)))) else (none)) else (if a0.toList = ([] : List UInt8) then (incipitref21_Read.j0 k a0 true) else (if 0 < (a0.size : Int) then (incipitref21_Read.j0 k a0 ((bt a0 0) != 60)) else (none)))) = some (r1, r2, r3, r4, r5) := H
  have A2 := Aside0.mk A20
  clear A20
  by_cases c3 : t179 = true
  · subst c3
    have H1 : (if 2 ≤ (a0.size : Int) then ((incipitref21_name.f k (a0.extract 2 a0.size) false).bind fun t180 => (if t180 = 0 then (some ((⟨#[]⟩ : ByteArray), false, false, ([] : List (S45)), 0)) else (if 0 ≤ (wrap64 (2 + t180)) then (if (wrap64 (2 + t180)) ≤ (a0.size : Int) then ((incipitref08_Begins.f (a0.extract ((wrap64 (2 + t180)) : Int).toNat a0.size) (⟨#[62]⟩ : ByteArray)).bind fun t181 => (if t181 = true then (if 2 ≤ (wrap64 (2 + t180)) then (some (a0.extract 2 ((wrap64 (2 + t180)) : Int).toNat, true, false, ([] : List (S45)), wrap64 (t180 + 3))) else (none)) else (some ((⟨#[]⟩ : ByteArray), false, false, ([] : List (S45)), 0)))) else (none)) else (none)))) else (none)) = some (r1, r2, r3, r4, r5) := by rw [if_pos rfl] at H; exact H
    clear H
    have H := H1
    clear H1
    by_cases c4 : 2 ≤ (a0.size : Int)
    · rw [if_pos c4] at H
      have c4b0 := eq_true c4
      have c4b1 : decide (2 ≤ (a0.size : Int)) = true := decide_eq_true c4
      clear c4
      replace H := Option.bind_eq_some_iff.mp H
      obtain ⟨t180, A50, H⟩ := H
      replace H : (if t180 = 0 then (some ((⟨#[]⟩ : ByteArray), false, false, ([] : List (S45)), 0)) else (if 0 ≤ (wrap64 (2 + t180)) then (if (wrap64 (2 + t180)) ≤ (a0.size : Int) then ((incipitref08_Begins.f (a0.extract ((wrap64 (2 + t180)) : Int).toNat a0.size) (⟨#[62]⟩ : ByteArray)).bind fun t181 => (if t181 = true then (if 2 ≤ (wrap64 (2 + t180)) then (some (a0.extract 2 ((wrap64 (2 + t180)) : Int).toNat, true, false, ([] : List (S45)), wrap64 (t180 + 3))) else (none)) else (some ((⟨#[]⟩ : ByteArray), false, false, ([] : List (S45)), 0)))) else (none)) else (none))) = some (r1, r2, r3, r4, r5) := H
      have A5 := Aside0.mk A50
      clear A50
      by_cases c6 : t180 = 0
      · rw [if_pos c6] at H
        have c6b0 : (t180 == 0) = true := beq_iff_eq.mpr c6
        have c6b1 : (t180 != 0) = false := bne_eq_false_iff_eq.mpr c6
        clear c6
        simp only [Option.some.injEq, Prod.mk.injEq] at H
        obtain ⟨rfl, rfl, rfl, rfl, rfl⟩ := H
        go_enter Try.func9, Try.ntmps9
        go_wp2_with (first | ((with_reducible refine gate_dst (N := 2) rfl ?_); refine box_event ?hg (N := 2) ?hd (cs := #[.string (⟨#[]⟩ : ByteArray), .bool false, .bool false, .slice none 0 0]) (t := 28) ?hr ?_; (case hd => rfl); (case hg => rfl); (case hr => first | (go_simp; done) | (go_simp; rfl)); intro gb178 hg w7 hbox hb; have n0_ := Aside0.mk (below_step (by repeat (first | (with_reducible first | exact HB.out | apply below_alloc | apply pw_below_drewN | apply below_drew1) | exact HB.out)) hb); have n1_ := Aside0.mk (hbox); have n2_ := Aside0.mk ((by rw [hg]; exact (below_size (by repeat (first | (with_reducible first | exact HB.out | apply below_alloc | apply pw_below_drewN | apply below_drew1) | exact HB.out))) : w.heap.size ≤ gb178)); have n3_ := Aside0.mk ((by rw [hg]; exact (below_size (by repeat (first | (with_reducible first | exact HB.out | apply below_alloc | apply pw_below_drewN | apply below_drew1) | exact HB.out))) : w.heap.size ≤ gb178)); clear HB; have HB := n0_; have BK178 := n1_; have GW178 := n2_; have GE178 := n3_; clear n0_ n1_ n2_ n3_; clear hb hbox hg) | ((with_reducible refine gate_callee (f := 22) rfl ?_); refine goesL_ (some 11) rfl rfl Try.func22 (by kernel_rfl) rfl #[.string a0, .string (⟨#[60, 47]⟩ : ByteArray)] rfl (by (try simp only [List.map_toArray, List.map_cons, List.map_nil]); first | done | rfl | (simp only [List.length_drop, List.length_take]; rfl)) ?_; (with_reducible refine (incipitref08_Begins.calls a0 (⟨#[60, 47]⟩ : ByteArray) true _ A2.out).mono ?_); rintro e w' ⟨rfl, ⟨nd, rfl⟩⟩; refine ⟨_, rfl, ?_⟩; (try (rw [drewN_self w7]; generalize hq_ : World.drewN w7 _ = w7; have n0_ : Aside0 (w7.heap[gb178]? = some (.cells #[.string (⟨#[]⟩ : ByteArray), .bool false, .bool false, .slice none 0 0] 28 (0, 0))) := ⟨by rw [← hq_]; exact (by (with_reducible repeat (first | refine blk_drewN ?_ _ | refine blk_drew ?_ | refine blk_alloc ?_ _)); exact BK178.out)⟩; have n1_ : Aside0 (Below w.heap.size w w7) := ⟨by rw [← hq_]; exact (by repeat (first | (with_reducible first | exact HB.out | apply below_alloc | apply pw_below_drewN | apply below_drew1 | refine below_set ?_ GE178.out) | exact HB.out))⟩; clear BK178 HB hq_; have BK178 := n0_; have HB := n1_; clear n0_ n1_))) | ((with_reducible refine gate_callee (f := 23) rfl ?_); refine goesL_ (some 14) rfl rfl Try.func23 (by kernel_rfl) rfl #[.string (a0.extract 2 a0.size), .bool false] rfl (by (try simp only [List.map_toArray, List.map_cons, List.map_nil]); first | done | rfl | (simp only [List.length_drop, List.length_take]; rfl)) ?_; (with_reducible refine (incipitref21_name.calls k (a0.extract 2 a0.size) false t180 _ A5.out).mono ?_); rintro e w' ⟨rfl, ⟨nd, rfl⟩⟩; refine ⟨_, rfl, ?_⟩; (try (rw [drewN_self w7]; generalize hq_ : World.drewN w7 _ = w7; have n0_ : Aside0 (w7.heap[gb178]? = some (.cells #[.string (⟨#[]⟩ : ByteArray), .bool false, .bool false, .slice none 0 0] 28 (0, 0))) := ⟨by rw [← hq_]; exact (by (with_reducible repeat (first | refine blk_drewN ?_ _ | refine blk_drew ?_ | refine blk_alloc ?_ _)); exact BK178.out)⟩; have n1_ : Aside0 (Below w.heap.size w w7) := ⟨by rw [← hq_]; exact (by repeat (first | (with_reducible first | exact HB.out | apply below_alloc | apply pw_below_drewN | apply below_drew1 | refine below_set ?_ GE178.out) | exact HB.out))⟩; clear BK178 HB hq_; have BK178 := n0_; have HB := n1_; clear n0_ n1_)); have hcz8_0 : w7.cell? ⟨gb178, 0, none⟩ = some (.string (⟨#[]⟩ : ByteArray)) := (blk_cell BK178.out 0).trans rfl; have hcz8_1 : w7.cell? ⟨gb178, 1, none⟩ = some (.bool false) := (blk_cell BK178.out 1).trans rfl; have hcz8_2 : w7.cell? ⟨gb178, 2, none⟩ = some (.bool false) := (blk_cell BK178.out 2).trans rfl; have hcz8_3 : w7.cell? ⟨gb178, 3, none⟩ = some (.slice none 0 0) := (blk_cell BK178.out 3).trans rfl; have hfz8_0 := blk_frozen BK178.out 0; have hfz8_1 := blk_frozen BK178.out 1; have hfz8_2 := blk_frozen BK178.out 2; have hfz8_3 := blk_frozen BK178.out 3))
        refine bodyPost_ret (results_ct rfl _ _ gb178 28 #[.string (⟨#[]⟩ : ByteArray), .bool false, .bool false, .slice none 0 0] (0, 0) _ rfl (by (with_reducible repeat (first | refine blk_drewN ?_ _ | refine blk_drew ?_ | refine blk_alloc ?_ _)); refine blk_put (cs := #[.string (⟨#[]⟩ : ByteArray), .bool false, .bool false, .slice none 0 0]) ?_ 3 _ rfl; (with_reducible repeat (first | refine blk_drewN ?_ _ | refine blk_drew ?_ | refine blk_alloc ?_ _)); refine blk_put (cs := #[.string (⟨#[]⟩ : ByteArray), .bool false, .bool false, .slice none 0 0]) ?_ 2 _ rfl; (with_reducible repeat (first | refine blk_drewN ?_ _ | refine blk_drew ?_ | refine blk_alloc ?_ _)); refine blk_put (cs := #[.string (⟨#[]⟩ : ByteArray), .bool false, .bool false, .slice none 0 0]) ?_ 1 _ rfl; (with_reducible repeat (first | refine blk_drewN ?_ _ | refine blk_drew ?_ | refine blk_alloc ?_ _)); refine blk_put (cs := #[.string (⟨#[]⟩ : ByteArray), .bool false, .bool false, .slice none 0 0]) ?_ 0 _ rfl; (with_reducible repeat (first | refine blk_drewN ?_ _ | refine blk_drew ?_ | refine blk_alloc ?_ _)); exact BK178.out) Try.underlying28 rfl (by kernel_rfl)) rfl ?_
        exact ⟨_, by first | rfl | (simp [errW_none, errW_some] <;> rfl) | (simp [*, errW_none, errW_some] <;> rfl), by first | exact Kd.R_nil _ _ _ _ _ | exact Kd.N_nil _ _ _ _ _ | exact Kd.V_nil _ _ _ _ _ | exact Kd.Q_nil _ _ _ _ _ | exact Kd.S_nil _ _ _ _ _, by repeat (first | (with_reducible first | exact HB.out | apply below_alloc | apply pw_below_drewN | apply below_drew1 | refine below_set ?_ GE178.out) | exact HB.out)⟩
      · rw [if_neg c6] at H
        have c6b0 : (t180 == 0) = false := beq_eq_false_iff_ne.mpr c6
        have c6b1 : (t180 != 0) = true := bne_iff_ne.mpr c6
        obtain ⟨ji9, hji9⟩ : ∃ j_ : Int, (wrap64 (2 + t180)) = j_ := ⟨_, rfl⟩
        replace H : (if 0 ≤ (ji9) then (if (ji9) ≤ (a0.size : Int) then ((incipitref08_Begins.f (a0.extract ((ji9) : Int).toNat a0.size) (⟨#[62]⟩ : ByteArray)).bind fun t181 => (if t181 = true then (if 2 ≤ (ji9) then (some (a0.extract 2 ((ji9) : Int).toNat, true, false, ([] : List (S45)), wrap64 (t180 + 3))) else (none)) else (some ((⟨#[]⟩ : ByteArray), false, false, ([] : List (S45)), 0)))) else (none)) else (none)) = some (r1, r2, r3, r4, r5) := by first | (rw [hji9] at H; exact H) | (simp only [hji9] at H ⊢; exact H)
        (try rw [hji9] at A2)
        (try rw [hji9] at A5)
        have hji9w : (IntKind.i64.wrap (2 + t180)) = ji9 := (i64_w _).trans hji9
        by_cases c10 : 0 ≤ (ji9)
        · rw [if_pos c10] at H
          have c10b0 := eq_true c10
          have c10b1 : decide (0 ≤ (ji9)) = true := decide_eq_true c10
          clear c10
          by_cases c11 : (ji9) ≤ (a0.size : Int)
          · rw [if_pos c11] at H
            have c11b0 := eq_true c11
            have c11b1 : decide ((ji9) ≤ (a0.size : Int)) = true := decide_eq_true c11
            clear c11
            replace H := Option.bind_eq_some_iff.mp H
            obtain ⟨t181, A120, H⟩ := H
            replace H : (if t181 = true then (if 2 ≤ (ji9) then (some (a0.extract 2 ((ji9) : Int).toNat, true, false, ([] : List (S45)), wrap64 (t180 + 3))) else (none)) else (some ((⟨#[]⟩ : ByteArray), false, false, ([] : List (S45)), 0))) = some (r1, r2, r3, r4, r5) := H
            have A12 := Aside0.mk A120
            clear A120
            by_cases c13 : t181 = true
            · subst c13
              have H1 : (if 2 ≤ (ji9) then (some (a0.extract 2 ((ji9) : Int).toNat, true, false, ([] : List (S45)), wrap64 (t180 + 3))) else (none)) = some (r1, r2, r3, r4, r5) := by rw [if_pos rfl] at H; exact H
              clear H
              have H := H1
              clear H1
              by_cases c14 : 2 ≤ (ji9)
              · rw [if_pos c14] at H
                have c14b0 := eq_true c14
                have c14b1 : decide (2 ≤ (ji9)) = true := decide_eq_true c14
                clear c14
                have c15b0 := eq_true (of_decide_eq_true (by first | (with_reducible assumption) | assumption) : (ji9) ≤ (a0.size : Int))
                simp only [Option.some.injEq, Prod.mk.injEq] at H
                obtain ⟨rfl, rfl, rfl, rfl, rfl⟩ := H
                go_enter Try.func9, Try.ntmps9
                go_wp2_with (first | ((with_reducible refine gate_dst (N := 2) rfl ?_); refine box_event ?hg (N := 2) ?hd (cs := #[.string (⟨#[]⟩ : ByteArray), .bool false, .bool false, .slice none 0 0]) (t := 28) ?hr ?_; (case hd => rfl); (case hg => rfl); (case hr => first | (go_simp; done) | (go_simp; rfl)); intro gb178 hg w16 hbox hb; have n0_ := Aside0.mk (below_step (by repeat (first | (with_reducible first | exact HB.out | apply below_alloc | apply pw_below_drewN | apply below_drew1) | exact HB.out)) hb); have n1_ := Aside0.mk (hbox); have n2_ := Aside0.mk ((by rw [hg]; exact (below_size (by repeat (first | (with_reducible first | exact HB.out | apply below_alloc | apply pw_below_drewN | apply below_drew1) | exact HB.out))) : w.heap.size ≤ gb178)); have n3_ := Aside0.mk ((by rw [hg]; exact (below_size (by repeat (first | (with_reducible first | exact HB.out | apply below_alloc | apply pw_below_drewN | apply below_drew1) | exact HB.out))) : w.heap.size ≤ gb178)); clear HB; have HB := n0_; have BK178 := n1_; have GW178 := n2_; have GE178 := n3_; clear n0_ n1_ n2_ n3_; clear hb hbox hg) | ((with_reducible refine gate_callee (f := 22) rfl ?_); refine goesL_ (some 11) rfl rfl Try.func22 (by kernel_rfl) rfl #[.string a0, .string (⟨#[60, 47]⟩ : ByteArray)] rfl (by (try simp only [List.map_toArray, List.map_cons, List.map_nil]); first | done | rfl | (simp only [List.length_drop, List.length_take]; rfl)) ?_; (with_reducible refine (incipitref08_Begins.calls a0 (⟨#[60, 47]⟩ : ByteArray) true _ A2.out).mono ?_); rintro e w' ⟨rfl, ⟨nd, rfl⟩⟩; refine ⟨_, rfl, ?_⟩; (try (rw [drewN_self w16]; generalize hq_ : World.drewN w16 _ = w16; have n0_ : Aside0 (w16.heap[gb178]? = some (.cells #[.string (⟨#[]⟩ : ByteArray), .bool false, .bool false, .slice none 0 0] 28 (0, 0))) := ⟨by rw [← hq_]; exact (by (with_reducible repeat (first | refine blk_drewN ?_ _ | refine blk_drew ?_ | refine blk_alloc ?_ _)); exact BK178.out)⟩; have n1_ : Aside0 (Below w.heap.size w w16) := ⟨by rw [← hq_]; exact (by repeat (first | (with_reducible first | exact HB.out | apply below_alloc | apply pw_below_drewN | apply below_drew1 | refine below_set ?_ GE178.out) | exact HB.out))⟩; clear BK178 HB hq_; have BK178 := n0_; have HB := n1_; clear n0_ n1_))) | ((with_reducible refine gate_callee (f := 23) rfl ?_); refine goesL_ (some 14) rfl rfl Try.func23 (by kernel_rfl) rfl #[.string (a0.extract 2 a0.size), .bool false] rfl (by (try simp only [List.map_toArray, List.map_cons, List.map_nil]); first | done | rfl | (simp only [List.length_drop, List.length_take]; rfl)) ?_; (with_reducible refine (incipitref21_name.calls k (a0.extract 2 a0.size) false t180 _ A5.out).mono ?_); rintro e w' ⟨rfl, ⟨nd, rfl⟩⟩; refine ⟨_, rfl, ?_⟩; (try (rw [drewN_self w16]; generalize hq_ : World.drewN w16 _ = w16; have n0_ : Aside0 (w16.heap[gb178]? = some (.cells #[.string (⟨#[]⟩ : ByteArray), .bool false, .bool false, .slice none 0 0] 28 (0, 0))) := ⟨by rw [← hq_]; exact (by (with_reducible repeat (first | refine blk_drewN ?_ _ | refine blk_drew ?_ | refine blk_alloc ?_ _)); exact BK178.out)⟩; have n1_ : Aside0 (Below w.heap.size w w16) := ⟨by rw [← hq_]; exact (by repeat (first | (with_reducible first | exact HB.out | apply below_alloc | apply pw_below_drewN | apply below_drew1 | refine below_set ?_ GE178.out) | exact HB.out))⟩; clear BK178 HB hq_; have BK178 := n0_; have HB := n1_; clear n0_ n1_))) | (go_at_call 22; (with_reducible refine (incipitref08_Begins.calls (a0.extract ((ji9) : Int).toNat a0.size) (⟨#[62]⟩ : ByteArray) true _ A12.out).mono ?_); rintro e w' ⟨rfl, ⟨nd, rfl⟩⟩; (try (rw [drewN_self w16]; generalize hq_ : World.drewN w16 _ = w16; have n0_ : Aside0 (w16.heap[gb178]? = some (.cells #[.string (⟨#[]⟩ : ByteArray), .bool false, .bool false, .slice none 0 0] 28 (0, 0))) := ⟨by rw [← hq_]; exact (by (with_reducible repeat (first | refine blk_drewN ?_ _ | refine blk_drew ?_ | refine blk_alloc ?_ _)); exact BK178.out)⟩; have n1_ : Aside0 (Below w.heap.size w w16) := ⟨by rw [← hq_]; exact (by repeat (first | (with_reducible first | exact HB.out | apply below_alloc | apply pw_below_drewN | apply below_drew1 | refine below_set ?_ GE178.out) | exact HB.out))⟩; clear BK178 HB hq_; have BK178 := n0_; have HB := n1_; clear n0_ n1_)); have hcz17_0 : w16.cell? ⟨gb178, 0, none⟩ = some (.string (⟨#[]⟩ : ByteArray)) := (blk_cell BK178.out 0).trans rfl; have hcz17_1 : w16.cell? ⟨gb178, 1, none⟩ = some (.bool false) := (blk_cell BK178.out 1).trans rfl; have hcz17_2 : w16.cell? ⟨gb178, 2, none⟩ = some (.bool false) := (blk_cell BK178.out 2).trans rfl; have hcz17_3 : w16.cell? ⟨gb178, 3, none⟩ = some (.slice none 0 0) := (blk_cell BK178.out 3).trans rfl; have hfz17_0 := blk_frozen BK178.out 0; have hfz17_1 := blk_frozen BK178.out 1; have hfz17_2 := blk_frozen BK178.out 2; have hfz17_3 := blk_frozen BK178.out 3))
                refine bodyPost_ret (results_ct rfl _ _ gb178 28 #[.string (a0.extract 2 ((ji9) : Int).toNat), .bool true, .bool false, .slice none 0 0] (0, 0) _ rfl (by (with_reducible repeat (first | refine blk_drewN ?_ _ | refine blk_drew ?_ | refine blk_alloc ?_ _)); refine blk_put (cs := #[.string (a0.extract 2 ((ji9) : Int).toNat), .bool true, .bool false, .slice none 0 0]) ?_ 3 _ rfl; (with_reducible repeat (first | refine blk_drewN ?_ _ | refine blk_drew ?_ | refine blk_alloc ?_ _)); refine blk_put (cs := #[.string (a0.extract 2 ((ji9) : Int).toNat), .bool true, .bool false, .slice none 0 0]) ?_ 2 _ rfl; (with_reducible repeat (first | refine blk_drewN ?_ _ | refine blk_drew ?_ | refine blk_alloc ?_ _)); refine blk_put (cs := #[.string (a0.extract 2 ((ji9) : Int).toNat), .bool false, .bool false, .slice none 0 0]) ?_ 1 _ rfl; (with_reducible repeat (first | refine blk_drewN ?_ _ | refine blk_drew ?_ | refine blk_alloc ?_ _)); refine blk_put (cs := #[.string (⟨#[]⟩ : ByteArray), .bool false, .bool false, .slice none 0 0]) ?_ 0 _ rfl; (with_reducible repeat (first | refine blk_drewN ?_ _ | refine blk_drew ?_ | refine blk_alloc ?_ _)); exact BK178.out) Try.underlying28 rfl (by kernel_rfl)) rfl ?_
                exact ⟨_, by first | rfl | (simp [errW_none, errW_some] <;> rfl) | (simp only [← hji9]; first | rfl | (simp [errW_none, errW_some] <;> rfl)) | (simp [*, errW_none, errW_some] <;> rfl), by first | exact Kd.R_nil _ _ _ _ _ | exact Kd.N_nil _ _ _ _ _ | exact Kd.V_nil _ _ _ _ _ | exact Kd.Q_nil _ _ _ _ _ | exact Kd.S_nil _ _ _ _ _, by repeat (first | (with_reducible first | exact HB.out | apply below_alloc | apply pw_below_drewN | apply below_drew1 | refine below_set ?_ GE178.out) | exact HB.out)⟩
              · rw [if_neg c14] at H
                exact absurd H (by simp)
            · replace c13 := Bool.eq_false_iff.mpr c13
              subst c13
              have H1 : (some ((⟨#[]⟩ : ByteArray), false, false, ([] : List (S45)), 0)) = some (r1, r2, r3, r4, r5) := by rw [if_neg (show ¬ (false = true) by decide)] at H; exact H
              clear H
              have H := H1
              clear H1
              simp only [Option.some.injEq, Prod.mk.injEq] at H
              obtain ⟨rfl, rfl, rfl, rfl, rfl⟩ := H
              go_enter Try.func9, Try.ntmps9
              go_wp2_with (first | ((with_reducible refine gate_dst (N := 2) rfl ?_); refine box_event ?hg (N := 2) ?hd (cs := #[.string (⟨#[]⟩ : ByteArray), .bool false, .bool false, .slice none 0 0]) (t := 28) ?hr ?_; (case hd => rfl); (case hg => rfl); (case hr => first | (go_simp; done) | (go_simp; rfl)); intro gb178 hg w18 hbox hb; have n0_ := Aside0.mk (below_step (by repeat (first | (with_reducible first | exact HB.out | apply below_alloc | apply pw_below_drewN | apply below_drew1) | exact HB.out)) hb); have n1_ := Aside0.mk (hbox); have n2_ := Aside0.mk ((by rw [hg]; exact (below_size (by repeat (first | (with_reducible first | exact HB.out | apply below_alloc | apply pw_below_drewN | apply below_drew1) | exact HB.out))) : w.heap.size ≤ gb178)); have n3_ := Aside0.mk ((by rw [hg]; exact (below_size (by repeat (first | (with_reducible first | exact HB.out | apply below_alloc | apply pw_below_drewN | apply below_drew1) | exact HB.out))) : w.heap.size ≤ gb178)); clear HB; have HB := n0_; have BK178 := n1_; have GW178 := n2_; have GE178 := n3_; clear n0_ n1_ n2_ n3_; clear hb hbox hg) | ((with_reducible refine gate_callee (f := 22) rfl ?_); refine goesL_ (some 11) rfl rfl Try.func22 (by kernel_rfl) rfl #[.string a0, .string (⟨#[60, 47]⟩ : ByteArray)] rfl (by (try simp only [List.map_toArray, List.map_cons, List.map_nil]); first | done | rfl | (simp only [List.length_drop, List.length_take]; rfl)) ?_; (with_reducible refine (incipitref08_Begins.calls a0 (⟨#[60, 47]⟩ : ByteArray) true _ A2.out).mono ?_); rintro e w' ⟨rfl, ⟨nd, rfl⟩⟩; refine ⟨_, rfl, ?_⟩; (try (rw [drewN_self w18]; generalize hq_ : World.drewN w18 _ = w18; have n0_ : Aside0 (w18.heap[gb178]? = some (.cells #[.string (⟨#[]⟩ : ByteArray), .bool false, .bool false, .slice none 0 0] 28 (0, 0))) := ⟨by rw [← hq_]; exact (by (with_reducible repeat (first | refine blk_drewN ?_ _ | refine blk_drew ?_ | refine blk_alloc ?_ _)); exact BK178.out)⟩; have n1_ : Aside0 (Below w.heap.size w w18) := ⟨by rw [← hq_]; exact (by repeat (first | (with_reducible first | exact HB.out | apply below_alloc | apply pw_below_drewN | apply below_drew1 | refine below_set ?_ GE178.out) | exact HB.out))⟩; clear BK178 HB hq_; have BK178 := n0_; have HB := n1_; clear n0_ n1_))) | ((with_reducible refine gate_callee (f := 23) rfl ?_); refine goesL_ (some 14) rfl rfl Try.func23 (by kernel_rfl) rfl #[.string (a0.extract 2 a0.size), .bool false] rfl (by (try simp only [List.map_toArray, List.map_cons, List.map_nil]); first | done | rfl | (simp only [List.length_drop, List.length_take]; rfl)) ?_; (with_reducible refine (incipitref21_name.calls k (a0.extract 2 a0.size) false t180 _ A5.out).mono ?_); rintro e w' ⟨rfl, ⟨nd, rfl⟩⟩; refine ⟨_, rfl, ?_⟩; (try (rw [drewN_self w18]; generalize hq_ : World.drewN w18 _ = w18; have n0_ : Aside0 (w18.heap[gb178]? = some (.cells #[.string (⟨#[]⟩ : ByteArray), .bool false, .bool false, .slice none 0 0] 28 (0, 0))) := ⟨by rw [← hq_]; exact (by (with_reducible repeat (first | refine blk_drewN ?_ _ | refine blk_drew ?_ | refine blk_alloc ?_ _)); exact BK178.out)⟩; have n1_ : Aside0 (Below w.heap.size w w18) := ⟨by rw [← hq_]; exact (by repeat (first | (with_reducible first | exact HB.out | apply below_alloc | apply pw_below_drewN | apply below_drew1 | refine below_set ?_ GE178.out) | exact HB.out))⟩; clear BK178 HB hq_; have BK178 := n0_; have HB := n1_; clear n0_ n1_))) | (go_at_call 22; (with_reducible refine (incipitref08_Begins.calls (a0.extract ((ji9) : Int).toNat a0.size) (⟨#[62]⟩ : ByteArray) false _ A12.out).mono ?_); rintro e w' ⟨rfl, ⟨nd, rfl⟩⟩; (try (rw [drewN_self w18]; generalize hq_ : World.drewN w18 _ = w18; have n0_ : Aside0 (w18.heap[gb178]? = some (.cells #[.string (⟨#[]⟩ : ByteArray), .bool false, .bool false, .slice none 0 0] 28 (0, 0))) := ⟨by rw [← hq_]; exact (by (with_reducible repeat (first | refine blk_drewN ?_ _ | refine blk_drew ?_ | refine blk_alloc ?_ _)); exact BK178.out)⟩; have n1_ : Aside0 (Below w.heap.size w w18) := ⟨by rw [← hq_]; exact (by repeat (first | (with_reducible first | exact HB.out | apply below_alloc | apply pw_below_drewN | apply below_drew1 | refine below_set ?_ GE178.out) | exact HB.out))⟩; clear BK178 HB hq_; have BK178 := n0_; have HB := n1_; clear n0_ n1_)); have hcz19_0 : w18.cell? ⟨gb178, 0, none⟩ = some (.string (⟨#[]⟩ : ByteArray)) := (blk_cell BK178.out 0).trans rfl; have hcz19_1 : w18.cell? ⟨gb178, 1, none⟩ = some (.bool false) := (blk_cell BK178.out 1).trans rfl; have hcz19_2 : w18.cell? ⟨gb178, 2, none⟩ = some (.bool false) := (blk_cell BK178.out 2).trans rfl; have hcz19_3 : w18.cell? ⟨gb178, 3, none⟩ = some (.slice none 0 0) := (blk_cell BK178.out 3).trans rfl; have hfz19_0 := blk_frozen BK178.out 0; have hfz19_1 := blk_frozen BK178.out 1; have hfz19_2 := blk_frozen BK178.out 2; have hfz19_3 := blk_frozen BK178.out 3))
              refine bodyPost_ret (results_ct rfl _ _ gb178 28 #[.string (⟨#[]⟩ : ByteArray), .bool false, .bool false, .slice none 0 0] (0, 0) _ rfl (by (with_reducible repeat (first | refine blk_drewN ?_ _ | refine blk_drew ?_ | refine blk_alloc ?_ _)); refine blk_put (cs := #[.string (⟨#[]⟩ : ByteArray), .bool false, .bool false, .slice none 0 0]) ?_ 3 _ rfl; (with_reducible repeat (first | refine blk_drewN ?_ _ | refine blk_drew ?_ | refine blk_alloc ?_ _)); refine blk_put (cs := #[.string (⟨#[]⟩ : ByteArray), .bool false, .bool false, .slice none 0 0]) ?_ 2 _ rfl; (with_reducible repeat (first | refine blk_drewN ?_ _ | refine blk_drew ?_ | refine blk_alloc ?_ _)); refine blk_put (cs := #[.string (⟨#[]⟩ : ByteArray), .bool false, .bool false, .slice none 0 0]) ?_ 1 _ rfl; (with_reducible repeat (first | refine blk_drewN ?_ _ | refine blk_drew ?_ | refine blk_alloc ?_ _)); refine blk_put (cs := #[.string (⟨#[]⟩ : ByteArray), .bool false, .bool false, .slice none 0 0]) ?_ 0 _ rfl; (with_reducible repeat (first | refine blk_drewN ?_ _ | refine blk_drew ?_ | refine blk_alloc ?_ _)); exact BK178.out) Try.underlying28 rfl (by kernel_rfl)) rfl ?_
              exact ⟨_, by first | rfl | (simp [errW_none, errW_some] <;> rfl) | (simp only [← hji9]; first | rfl | (simp [errW_none, errW_some] <;> rfl)) | (simp [*, errW_none, errW_some] <;> rfl), by first | exact Kd.R_nil _ _ _ _ _ | exact Kd.N_nil _ _ _ _ _ | exact Kd.V_nil _ _ _ _ _ | exact Kd.Q_nil _ _ _ _ _ | exact Kd.S_nil _ _ _ _ _, by repeat (first | (with_reducible first | exact HB.out | apply below_alloc | apply pw_below_drewN | apply below_drew1 | refine below_set ?_ GE178.out) | exact HB.out)⟩
          · rw [if_neg c11] at H
            exact absurd H (by simp)
        · rw [if_neg c10] at H
          exact absurd H (by simp)
    · rw [if_neg c4] at H
      exact absurd H (by simp)
  · replace c3 := Bool.eq_false_iff.mpr c3
    subst c3
    have H1 : (if a0.toList = ([] : List UInt8) then (incipitref21_Read.j0 k a0 true) else (if 0 < (a0.size : Int) then (incipitref21_Read.j0 k a0 ((bt a0 0) != 60)) else (none))) = some (r1, r2, r3, r4, r5) := by rw [if_neg (show ¬ (false = true) by decide)] at H; exact H
    clear H
    have H := H1
    clear H1
    have HC20 := Aside0.mk H
    clear H
    go_enter Try.func9, Try.ntmps9
    go_upto_region 6 with (first | ((with_reducible refine gate_dst (N := 2) rfl ?_); refine box_event ?hg (N := 2) ?hd (cs := #[.string (⟨#[]⟩ : ByteArray), .bool false, .bool false, .slice none 0 0]) (t := 28) ?hr ?_; (case hd => rfl); (case hg => rfl); (case hr => first | (go_simp; done) | (go_simp; rfl)); intro gb178 hg w21 hbox hb; have n0_ := Aside0.mk (below_step (by repeat (first | (with_reducible first | exact HB.out | apply below_alloc | apply pw_below_drewN | apply below_drew1) | exact HB.out)) hb); have n1_ := Aside0.mk (hbox); have n2_ := Aside0.mk ((by rw [hg]; exact (below_size (by repeat (first | (with_reducible first | exact HB.out | apply below_alloc | apply pw_below_drewN | apply below_drew1) | exact HB.out))) : w.heap.size ≤ gb178)); have n3_ := Aside0.mk ((by rw [hg]; exact (below_size (by repeat (first | (with_reducible first | exact HB.out | apply below_alloc | apply pw_below_drewN | apply below_drew1) | exact HB.out))) : w.heap.size ≤ gb178)); clear HB; have HB := n0_; have BK178 := n1_; have GW178 := n2_; have GE178 := n3_; clear n0_ n1_ n2_ n3_; clear hb hbox hg) | ((with_reducible refine gate_callee (f := 22) rfl ?_); refine goesL_ (some 11) rfl rfl Try.func22 (by kernel_rfl) rfl #[.string a0, .string (⟨#[60, 47]⟩ : ByteArray)] rfl (by (try simp only [List.map_toArray, List.map_cons, List.map_nil]); first | done | rfl | (simp only [List.length_drop, List.length_take]; rfl)) ?_; (with_reducible refine (incipitref08_Begins.calls a0 (⟨#[60, 47]⟩ : ByteArray) false _ A2.out).mono ?_); rintro e w' ⟨rfl, ⟨nd, rfl⟩⟩; refine ⟨_, rfl, ?_⟩))
    (try simp only [Act.put, List.setIfInBounds_toArray, List.set_cons_zero, List.set_cons_succ])
    go_cut [39] (fun v39 wc => ∃ (kq : Nat) (x39_19 : Bool), v39 = .bool x39_19 ∧ Aside0 (incipitref21_Read.j0 kq a0 x39_19 = some (r1, r2, r3, r4, r5)) ∧ Aside0 (kq ≤ k) ∧ Aside0 (wc.heap[gb178]? = some (.cells #[.string (⟨#[]⟩ : ByteArray), .bool false, .bool false, (.slice none 0 0)] 28 (0, 0))) ∧ Aside0 (Below w.heap.size w wc))
    case first =>
      have H := HC20.out
      clear HC20
      by_cases c22 : a0.toList = ([] : List UInt8)
      · rw [if_pos c22] at H
        have c22b0 : (a0.toList == ([] : List UInt8)) = true := beq_iff_eq.mpr c22
        have c22b1 : (a0.toList != ([] : List UInt8)) = false := bne_eq_false_iff_eq.mpr c22
        clear c22
        (first | rw [c22b0] | (simp only [i64_w, i32_w]; rw [c22b0]) | skip)
        have H' := Aside0.mk H
        clear H
        go_wp2
        go_meet
        case rel => exact ⟨_, (true), (by first | rfl | (simp; done) | (simp [*]; done)), H', ⟨by first | omega | exact Nat.le_refl _⟩, ⟨by (with_reducible repeat (first | refine blk_drewN ?_ _ | refine blk_drew ?_ | refine blk_alloc ?_ _)); exact BK178.out⟩, ⟨by repeat (first | (with_reducible first | exact HB.out | apply below_alloc | apply pw_below_drewN | apply below_drew1 | refine below_set ?_ GE178.out) | exact HB.out)⟩⟩
      · rw [if_neg c22] at H
        have c22b0 : (a0.toList == ([] : List UInt8)) = false := beq_eq_false_iff_ne.mpr c22
        have c22b1 : (a0.toList != ([] : List UInt8)) = true := bne_iff_ne.mpr c22
        (first | rw [c22b0] | (simp only [i64_w, i32_w]; rw [c22b0]) | skip)
        by_cases c23 : 0 < (a0.size : Int)
        · rw [if_pos c23] at H
          have c23b0 : decide (0 < (a0.size : Int)) = true := decide_eq_true c23
          have c23b1 : decide (0 < a0.size) = true := decide_eq_true (by omega)
          clear c23
          have H' := Aside0.mk H
          clear H
          have p24 : 0 ≤ (0 : Int) := (by omega)
          have q24 : 0 < a0.size := (by have : (0 : Int) < (a0.size : Int) := of_decide_eq_true (by first | (with_reducible assumption) | assumption); omega)
          have hx24 : ∀ h : 0 < a0.size, ((a0[0]'h).toNat : Int) = bt a0 0 := bt_at a0 0
          clear p24
          have qi24 : (0 < (a0.size : Int)) = True := eq_true (of_decide_eq_true (by first | (with_reducible assumption) | assumption))
          replace q24 := eq_true q24
          go_wp2
          go_meet
          case rel => exact ⟨_, (((bt a0 0) != 60)), (by first | rfl | (simp; done) | (simp [*]; done)), H', ⟨by first | omega | exact Nat.le_refl _⟩, ⟨by (with_reducible repeat (first | refine blk_drewN ?_ _ | refine blk_drew ?_ | refine blk_alloc ?_ _)); exact BK178.out⟩, ⟨by repeat (first | (with_reducible first | exact HB.out | apply below_alloc | apply pw_below_drewN | apply below_drew1 | refine below_set ?_ GE178.out) | exact HB.out)⟩⟩
        · rw [if_neg c23] at H
          exact absurd H (by simp)
    case rest =>
      clear HC20
      try clear c1
      try clear c2
      try clear p2
      try clear q2
      try clear hx2
      try clear qi2
      try clear c3
      try clear c4
      try clear c4b0
      try clear c4b1
      try clear c6
      try clear c6b0
      try clear c6b1
      try clear p6
      try clear c9
      try clear c10
      try clear c10b0
      try clear c10b1
      try clear c11
      try clear c11b0
      try clear c11b1
      try clear c13
      try clear c14
      try clear c14b0
      try clear c14b1
      try clear c15
      try clear c15b0
      try clear c22
      try clear c22b0
      try clear c22b1
      try clear c23
      try clear c23b0
      try clear c23b1
      try clear p24
      try clear q24
      try clear hx24
      try clear qi24
      try clear hcz17_0
      try clear hcz17_1
      try clear hcz17_2
      try clear hcz17_3
      try clear hcz19_0
      try clear hcz19_1
      try clear hcz19_2
      try clear hcz19_3
      try clear hcz8_0
      try clear hcz8_1
      try clear hcz8_2
      try clear hcz8_3
      try clear hfz17_0
      try clear hfz17_1
      try clear hfz17_2
      try clear hfz17_3
      try clear hfz19_0
      try clear hfz19_1
      try clear hfz19_2
      try clear hfz19_3
      try clear hfz8_0
      try clear hfz8_1
      try clear hfz8_2
      try clear hfz8_3
      try clear p24
      try clear q24
      obtain ⟨kq, x39_19, rfl, HA, HJ19, BK178, HB⟩ := hcut
      cases kq with
      | zero => exact absurd HA.out (by simp [incipitref21_Read.j0])
      | succ kj19 =>
        have H := HA.out
        clear HA
        simp only [incipitref21_Read.j0] at H
        by_cases c25 : x39_19 = true
        · subst c25
          have H1 : (some ((⟨#[]⟩ : ByteArray), false, false, ([] : List (S45)), 0)) = some (r1, r2, r3, r4, r5) := by rw [if_pos rfl] at H; exact H
          clear H
          have H := H1
          clear H1
          simp only [Option.some.injEq, Prod.mk.injEq] at H
          obtain ⟨rfl, rfl, rfl, rfl, rfl⟩ := H
          have hcz26_0 : wc.cell? ⟨gb178, 0, none⟩ = some (.string (⟨#[]⟩ : ByteArray)) := (blk_cell BK178.out 0).trans rfl
          have hcz26_1 : wc.cell? ⟨gb178, 1, none⟩ = some (.bool false) := (blk_cell BK178.out 1).trans rfl
          have hcz26_2 : wc.cell? ⟨gb178, 2, none⟩ = some (.bool false) := (blk_cell BK178.out 2).trans rfl
          have hcz26_3 : wc.cell? ⟨gb178, 3, none⟩ = some (.slice none 0 0) := (blk_cell BK178.out 3).trans rfl
          have hfz26_0 := blk_frozen BK178.out 0
          have hfz26_1 := blk_frozen BK178.out 1
          have hfz26_2 := blk_frozen BK178.out 2
          have hfz26_3 := blk_frozen BK178.out 3
          go_wp2
          refine bodyPost_ret (results_ct rfl _ _ gb178 28 #[.string (⟨#[]⟩ : ByteArray), .bool false, .bool false, .slice none 0 0] (0, 0) _ rfl (by (with_reducible repeat (first | refine blk_drewN ?_ _ | refine blk_drew ?_ | refine blk_alloc ?_ _)); refine blk_put (cs := #[.string (⟨#[]⟩ : ByteArray), .bool false, .bool false, .slice none 0 0]) ?_ 3 _ rfl; (with_reducible repeat (first | refine blk_drewN ?_ _ | refine blk_drew ?_ | refine blk_alloc ?_ _)); refine blk_put (cs := #[.string (⟨#[]⟩ : ByteArray), .bool false, .bool false, .slice none 0 0]) ?_ 2 _ rfl; (with_reducible repeat (first | refine blk_drewN ?_ _ | refine blk_drew ?_ | refine blk_alloc ?_ _)); refine blk_put (cs := #[.string (⟨#[]⟩ : ByteArray), .bool false, .bool false, .slice none 0 0]) ?_ 1 _ rfl; (with_reducible repeat (first | refine blk_drewN ?_ _ | refine blk_drew ?_ | refine blk_alloc ?_ _)); refine blk_put (cs := #[.string (⟨#[]⟩ : ByteArray), .bool false, .bool false, .slice none 0 0]) ?_ 0 _ rfl; (with_reducible repeat (first | refine blk_drewN ?_ _ | refine blk_drew ?_ | refine blk_alloc ?_ _)); exact BK178.out) Try.underlying28 rfl (by kernel_rfl)) rfl ?_
          exact ⟨_, by first | rfl | (simp [errW_none, errW_some] <;> rfl) | (simp [*, errW_none, errW_some] <;> rfl), by first | exact Kd.R_nil _ _ _ _ _ | exact Kd.N_nil _ _ _ _ _ | exact Kd.V_nil _ _ _ _ _ | exact Kd.Q_nil _ _ _ _ _ | exact Kd.S_nil _ _ _ _ _, by repeat (first | (with_reducible first | exact HB.out | apply below_alloc | apply pw_below_drewN | apply below_drew1 | refine below_set ?_ GE178.out) | exact HB.out)⟩
        · replace c25 := Bool.eq_false_iff.mpr c25
          subst c25
          have H1 : (if 1 ≤ (a0.size : Int) then ((incipitref21_name.f kj19 (a0.extract 1 a0.size) false).bind fun t182 => (if t182 = 0 then (some ((⟨#[]⟩ : ByteArray), false, false, ([] : List (S45)), 0)) else (if 1 ≤ (wrap64 (1 + t182)) then (if (wrap64 (1 + t182)) ≤ (a0.size : Int) then (incipitref21_Read.l0 kj19 a0 (wrap64 (1 + t182)) (a0.extract 1 ((wrap64 (1 + t182)) : Int).toNat) false false ([] : List (S45))) else (none)) else (none)))) else (none)) = some (r1, r2, r3, r4, r5) := by rw [if_neg (show ¬ (false = true) by decide)] at H; exact H
          clear H
          have H := H1
          clear H1
          by_cases c27 : 1 ≤ (a0.size : Int)
          · rw [if_pos c27] at H
            have c27b0 := eq_true c27
            have c27b1 : decide (1 ≤ (a0.size : Int)) = true := decide_eq_true c27
            clear c27
            replace H := Option.bind_eq_some_iff.mp H
            obtain ⟨t182, A280, H⟩ := H
            replace H : (if t182 = 0 then (some ((⟨#[]⟩ : ByteArray), false, false, ([] : List (S45)), 0)) else (if 1 ≤ (wrap64 (1 + t182)) then (if (wrap64 (1 + t182)) ≤ (a0.size : Int) then (incipitref21_Read.l0 kj19 a0 (wrap64 (1 + t182)) (a0.extract 1 ((wrap64 (1 + t182)) : Int).toNat) false false ([] : List (S45))) else (none)) else (none))) = some (r1, r2, r3, r4, r5) := H
            have A28 := Aside0.mk A280
            clear A280
            by_cases c29 : t182 = 0
            · rw [if_pos c29] at H
              have c29b0 : (t182 == 0) = true := beq_iff_eq.mpr c29
              have c29b1 : (t182 != 0) = false := bne_eq_false_iff_eq.mpr c29
              clear c29
              simp only [Option.some.injEq, Prod.mk.injEq] at H
              obtain ⟨rfl, rfl, rfl, rfl, rfl⟩ := H
              go_wp2_with (first | ((with_reducible refine gate_callee (f := 23) rfl ?_); refine goesL_ (some 43) rfl rfl Try.func23 (by kernel_rfl) rfl #[.string (a0.extract 1 a0.size), .bool false] rfl (by (try simp only [List.map_toArray, List.map_cons, List.map_nil]); first | done | rfl | (simp only [List.length_drop, List.length_take]; rfl)) ?_; (with_reducible refine (incipitref21_name.calls kj19 (a0.extract 1 a0.size) false t182 _ A28.out).mono ?_); rintro e w' ⟨rfl, ⟨nd, rfl⟩⟩; refine ⟨_, rfl, ?_⟩; (try (rw [drewN_self wc]; generalize hq_ : World.drewN wc _ = wc; have n0_ : Aside0 (wc.heap[gb178]? = some (.cells #[.string (⟨#[]⟩ : ByteArray), .bool false, .bool false, .slice none 0 0] 28 (0, 0))) := ⟨by rw [← hq_]; exact (by (with_reducible repeat (first | refine blk_drewN ?_ _ | refine blk_drew ?_ | refine blk_alloc ?_ _)); exact BK178.out)⟩; have n1_ : Aside0 (Below w.heap.size w wc) := ⟨by rw [← hq_]; exact (by repeat (first | (with_reducible first | exact HB.out | apply below_alloc | apply pw_below_drewN | apply below_drew1 | refine below_set ?_ GE178.out) | exact HB.out))⟩; clear BK178 HB hq_; have BK178 := n0_; have HB := n1_; clear n0_ n1_)); have hcz30_0 : wc.cell? ⟨gb178, 0, none⟩ = some (.string (⟨#[]⟩ : ByteArray)) := (blk_cell BK178.out 0).trans rfl; have hcz30_1 : wc.cell? ⟨gb178, 1, none⟩ = some (.bool false) := (blk_cell BK178.out 1).trans rfl; have hcz30_2 : wc.cell? ⟨gb178, 2, none⟩ = some (.bool false) := (blk_cell BK178.out 2).trans rfl; have hcz30_3 : wc.cell? ⟨gb178, 3, none⟩ = some (.slice none 0 0) := (blk_cell BK178.out 3).trans rfl; have hfz30_0 := blk_frozen BK178.out 0; have hfz30_1 := blk_frozen BK178.out 1; have hfz30_2 := blk_frozen BK178.out 2; have hfz30_3 := blk_frozen BK178.out 3))
              refine bodyPost_ret (results_ct rfl _ _ gb178 28 #[.string (⟨#[]⟩ : ByteArray), .bool false, .bool false, .slice none 0 0] (0, 0) _ rfl (by (with_reducible repeat (first | refine blk_drewN ?_ _ | refine blk_drew ?_ | refine blk_alloc ?_ _)); refine blk_put (cs := #[.string (⟨#[]⟩ : ByteArray), .bool false, .bool false, .slice none 0 0]) ?_ 3 _ rfl; (with_reducible repeat (first | refine blk_drewN ?_ _ | refine blk_drew ?_ | refine blk_alloc ?_ _)); refine blk_put (cs := #[.string (⟨#[]⟩ : ByteArray), .bool false, .bool false, .slice none 0 0]) ?_ 2 _ rfl; (with_reducible repeat (first | refine blk_drewN ?_ _ | refine blk_drew ?_ | refine blk_alloc ?_ _)); refine blk_put (cs := #[.string (⟨#[]⟩ : ByteArray), .bool false, .bool false, .slice none 0 0]) ?_ 1 _ rfl; (with_reducible repeat (first | refine blk_drewN ?_ _ | refine blk_drew ?_ | refine blk_alloc ?_ _)); refine blk_put (cs := #[.string (⟨#[]⟩ : ByteArray), .bool false, .bool false, .slice none 0 0]) ?_ 0 _ rfl; (with_reducible repeat (first | refine blk_drewN ?_ _ | refine blk_drew ?_ | refine blk_alloc ?_ _)); exact BK178.out) Try.underlying28 rfl (by kernel_rfl)) rfl ?_
              exact ⟨_, by first | rfl | (simp [errW_none, errW_some] <;> rfl) | (simp [*, errW_none, errW_some] <;> rfl), by first | exact Kd.R_nil _ _ _ _ _ | exact Kd.N_nil _ _ _ _ _ | exact Kd.V_nil _ _ _ _ _ | exact Kd.Q_nil _ _ _ _ _ | exact Kd.S_nil _ _ _ _ _, by repeat (first | (with_reducible first | exact HB.out | apply below_alloc | apply pw_below_drewN | apply below_drew1 | refine below_set ?_ GE178.out) | exact HB.out)⟩
            · rw [if_neg c29] at H
              have c29b0 : (t182 == 0) = false := beq_eq_false_iff_ne.mpr c29
              have c29b1 : (t182 != 0) = true := bne_iff_ne.mpr c29
              by_cases c31 : 1 ≤ (wrap64 (1 + t182))
              · rw [if_pos c31] at H
                have c31b0 := eq_true c31
                have c31b1 : decide (1 ≤ (wrap64 (1 + t182))) = true := decide_eq_true c31
                by_cases c32 : (wrap64 (1 + t182)) ≤ (a0.size : Int)
                · rw [if_pos c32] at H
                  have c32b0 := eq_true c32
                  have c32b1 : decide ((wrap64 (1 + t182)) ≤ (a0.size : Int)) = true := decide_eq_true c32
                  have H' := Aside0.mk H
                  clear H
                  go_wp2_with (first | ((with_reducible refine gate_callee (f := 23) rfl ?_); refine goesL_ (some 43) rfl rfl Try.func23 (by kernel_rfl) rfl #[.string (a0.extract 1 a0.size), .bool false] rfl (by (try simp only [List.map_toArray, List.map_cons, List.map_nil]); first | done | rfl | (simp only [List.length_drop, List.length_take]; rfl)) ?_; (with_reducible refine (incipitref21_name.calls kj19 (a0.extract 1 a0.size) false t182 _ A28.out).mono ?_); rintro e w' ⟨rfl, ⟨nd, rfl⟩⟩; refine ⟨_, rfl, ?_⟩; (try (rw [drewN_self wc]; generalize hq_ : World.drewN wc _ = wc; have n0_ : Aside0 (wc.heap[gb178]? = some (.cells #[.string (⟨#[]⟩ : ByteArray), .bool false, .bool false, .slice none 0 0] 28 (0, 0))) := ⟨by rw [← hq_]; exact (by (with_reducible repeat (first | refine blk_drewN ?_ _ | refine blk_drew ?_ | refine blk_alloc ?_ _)); exact BK178.out)⟩; have n1_ : Aside0 (Below w.heap.size w wc) := ⟨by rw [← hq_]; exact (by repeat (first | (with_reducible first | exact HB.out | apply below_alloc | apply pw_below_drewN | apply below_drew1 | refine below_set ?_ GE178.out) | exact HB.out))⟩; clear BK178 HB hq_; have BK178 := n0_; have HB := n1_; clear n0_ n1_))) | ((with_reducible refine gate_dst (N := 6) rfl ?_); refine box_event ?hg (N := 6) ?hd (cs := #[.string (⟨#[]⟩ : ByteArray), .bool false, .bool false, .slice none 0 0]) (t := 28) ?hr ?_; (case hd => rfl); (case hg => rfl); (case hr => first | (go_simp; done) | (go_simp; rfl)); intro gb183 hg w33 hbox hb; have n0_ := Aside0.mk (blk_below (g := gb178) (o := .cells #[.string (⟨#[]⟩ : ByteArray), .bool false, .bool false, .slice none 0 0] 28 (0, 0)) (by (with_reducible repeat (first | refine blk_drewN ?_ _ | refine blk_drew ?_ | refine blk_alloc ?_ _)); exact BK178.out) hb); have n1_ := Aside0.mk (below_step (by repeat (first | (with_reducible first | exact HB.out | apply below_alloc | apply pw_below_drewN | apply below_drew1 | refine below_set ?_ GE178.out) | exact HB.out)) hb); have n2_ := Aside0.mk (hbox); have n3_ := Aside0.mk ((by rw [hg]; exact (below_size (by repeat (first | (with_reducible first | exact HB.out | apply below_alloc | apply pw_below_drewN | apply below_drew1 | refine below_set ?_ GE178.out) | exact HB.out))) : w.heap.size ≤ gb183)); have n4_ := Aside0.mk ((by rw [hg]; exact (below_size (by repeat (first | (with_reducible first | exact HB.out | apply below_alloc | apply pw_below_drewN | apply below_drew1 | refine below_set ?_ GE178.out) | exact HB.out))) : w.heap.size ≤ gb183)); have n5_ := Aside0.mk ((by rw [hg]; exact Nat.ne_of_lt (blk_lt (g := gb178) (o := .cells #[.string (⟨#[]⟩ : ByteArray), .bool false, .bool false, .slice none 0 0] 28 (0, 0)) (by (with_reducible repeat (first | refine blk_drewN ?_ _ | refine blk_drew ?_ | refine blk_alloc ?_ _)); exact BK178.out)) : gb178 ≠ gb183)); have n6_ := Aside0.mk ((by rw [hg]; exact Nat.ne_of_gt (blk_lt (g := gb178) (o := .cells #[.string (⟨#[]⟩ : ByteArray), .bool false, .bool false, .slice none 0 0] 28 (0, 0)) (by (with_reducible repeat (first | refine blk_drewN ?_ _ | refine blk_drew ?_ | refine blk_alloc ?_ _)); exact BK178.out)) : gb183 ≠ gb178)); clear BK178; clear HB; have BK178 := n0_; have HB := n1_; have BK183 := n2_; have GW183 := n3_; have GE183 := n4_; have NB178_183 := n5_; have NB183_178 := n6_; clear n0_ n1_ n2_ n3_ n4_ n5_ n6_; clear hb hbox hg; have hnb34 := NB183_178.out; have hnc34 := NB178_183.out; have hcz35_0 : w33.cell? ⟨gb183, 0, none⟩ = some (.string (⟨#[]⟩ : ByteArray)) := (blk_cell BK183.out 0).trans rfl; have hcz35_1 : w33.cell? ⟨gb183, 1, none⟩ = some (.bool false) := (blk_cell BK183.out 1).trans rfl; have hcz35_2 : w33.cell? ⟨gb183, 2, none⟩ = some (.bool false) := (blk_cell BK183.out 2).trans rfl; have hcz35_3 : w33.cell? ⟨gb183, 3, none⟩ = some (.slice none 0 0) := (blk_cell BK183.out 3).trans rfl; have hfz35_0 := blk_frozen BK183.out 0; have hfz35_1 := blk_frozen BK183.out 1; have hfz35_2 := blk_frozen BK183.out 2; have hfz35_3 := blk_frozen BK183.out 3))
                  go_loopg [7] kj19 (fun kq v7 w' => ∃ (x7_2 : Int) (x184003_2 : List (S45)) (u184003 : Value), v7 = .int .i64 x7_2 ∧ Aside0 (incipitref21_Read.l0 kq a0 x7_2 (a0.extract 1 ((wrap64 (1 + t182)) : Int).toNat) false false x184003_2 = some (r1, r2, r3, r4, r5)) ∧ Aside0 (kq ≤ kj19) ∧ Aside0 (Kd.R k45 45 w' w.heap.size (fun _ => True) u184003 x184003_2) ∧ Aside0 (w'.heap[gb178]? = some (.cells #[.string (⟨#[]⟩ : ByteArray), .bool false, .bool false, (.slice none 0 0)] 28 (0, 0))) ∧ Aside0 (w'.heap[gb183]? = some (.cells #[.string (a0.extract 1 ((wrap64 (1 + t182)) : Int).toNat), .bool false, .bool false, u184003] 28 (0, 0))) ∧ Aside0 (Below w.heap.size w w'))
                  case atStart => exact ⟨(wrap64 (1 + t182)), (([] : List (S45))), (.slice none 0 0), (by first | rfl | (simp; done) | (simp [*]; done)), H', ⟨Nat.le_refl _⟩, ⟨by first | exact Kd.R_nil _ _ _ _ _ | exact Kd.N_nil _ _ _ _ _ | exact Kd.V_nil _ _ _ _ _ | exact Kd.Q_nil _ _ _ _ _ | exact Kd.S_nil _ _ _ _ _⟩, ⟨by (with_reducible repeat (first | refine blk_drewN ?_ _ | refine blk_drew ?_ | refine blk_alloc ?_ _)); refine blk_far ?_ NB178_183.out _; (with_reducible repeat (first | refine blk_drewN ?_ _ | refine blk_drew ?_ | refine blk_alloc ?_ _)); refine blk_far ?_ NB178_183.out _; (with_reducible repeat (first | refine blk_drewN ?_ _ | refine blk_drew ?_ | refine blk_alloc ?_ _)); refine blk_far ?_ NB178_183.out _; (with_reducible repeat (first | refine blk_drewN ?_ _ | refine blk_drew ?_ | refine blk_alloc ?_ _)); refine blk_far ?_ NB178_183.out _; (with_reducible repeat (first | refine blk_drewN ?_ _ | refine blk_drew ?_ | refine blk_alloc ?_ _)); exact BK178.out⟩, ⟨by (with_reducible repeat (first | refine blk_drewN ?_ _ | refine blk_drew ?_ | refine blk_alloc ?_ _)); refine blk_put (cs := #[.string (a0.extract 1 ((wrap64 (1 + t182)) : Int).toNat), .bool false, .bool false, .slice none 0 0]) ?_ 3 _ rfl; (with_reducible repeat (first | refine blk_drewN ?_ _ | refine blk_drew ?_ | refine blk_alloc ?_ _)); refine blk_put (cs := #[.string (a0.extract 1 ((wrap64 (1 + t182)) : Int).toNat), .bool false, .bool false, .slice none 0 0]) ?_ 2 _ rfl; (with_reducible repeat (first | refine blk_drewN ?_ _ | refine blk_drew ?_ | refine blk_alloc ?_ _)); refine blk_put (cs := #[.string (a0.extract 1 ((wrap64 (1 + t182)) : Int).toNat), .bool false, .bool false, .slice none 0 0]) ?_ 1 _ rfl; (with_reducible repeat (first | refine blk_drewN ?_ _ | refine blk_drew ?_ | refine blk_alloc ?_ _)); refine blk_put (cs := #[.string (⟨#[]⟩ : ByteArray), .bool false, .bool false, .slice none 0 0]) ?_ 0 _ rfl; (with_reducible repeat (first | refine blk_drewN ?_ _ | refine blk_drew ?_ | refine blk_alloc ?_ _)); exact BK183.out⟩, ⟨by repeat (first | (with_reducible first | exact HB.out | apply below_alloc | apply pw_below_drewN | apply below_drew1 | refine below_set ?_ GE178.out | refine below_set ?_ GE183.out) | exact HB.out)⟩⟩
                  case round =>
                    clear H'
                    try clear c1
                    try clear c2
                    try clear p2
                    try clear q2
                    try clear hx2
                    try clear qi2
                    try clear c3
                    try clear c4
                    try clear c4b0
                    try clear c4b1
                    try clear c6
                    try clear c6b0
                    try clear c6b1
                    try clear p6
                    try clear c9
                    try clear c10
                    try clear c10b0
                    try clear c10b1
                    try clear c11
                    try clear c11b0
                    try clear c11b1
                    try clear c13
                    try clear c14
                    try clear c14b0
                    try clear c14b1
                    try clear c15
                    try clear c15b0
                    try clear c22
                    try clear c22b0
                    try clear c22b1
                    try clear c23
                    try clear c23b0
                    try clear c23b1
                    try clear p24
                    try clear q24
                    try clear hx24
                    try clear qi24
                    try clear c25
                    try clear c27
                    try clear c27b0
                    try clear c27b1
                    try clear c29
                    try clear c29b0
                    try clear c29b1
                    try clear c31
                    try clear c31b0
                    try clear c31b1
                    try clear c32
                    try clear c32b0
                    try clear c32b1
                    try clear c34
                    try clear hcz17_0
                    try clear hcz17_1
                    try clear hcz17_2
                    try clear hcz17_3
                    try clear hcz19_0
                    try clear hcz19_1
                    try clear hcz19_2
                    try clear hcz19_3
                    try clear hcz26_0
                    try clear hcz26_1
                    try clear hcz26_2
                    try clear hcz26_3
                    try clear hcz30_0
                    try clear hcz30_1
                    try clear hcz30_2
                    try clear hcz30_3
                    try clear hcz35_0
                    try clear hcz35_1
                    try clear hcz35_2
                    try clear hcz35_3
                    try clear hcz8_0
                    try clear hcz8_1
                    try clear hcz8_2
                    try clear hcz8_3
                    try clear hfz17_0
                    try clear hfz17_1
                    try clear hfz17_2
                    try clear hfz17_3
                    try clear hfz19_0
                    try clear hfz19_1
                    try clear hfz19_2
                    try clear hfz19_3
                    try clear hfz26_0
                    try clear hfz26_1
                    try clear hfz26_2
                    try clear hfz26_3
                    try clear hfz30_0
                    try clear hfz30_1
                    try clear hfz30_2
                    try clear hfz30_3
                    try clear hfz35_0
                    try clear hfz35_1
                    try clear hfz35_2
                    try clear hfz35_3
                    try clear hfz8_0
                    try clear hfz8_1
                    try clear hfz8_2
                    try clear hfz8_3
                    try clear p2
                    try clear p24
                    try clear p6
                    try clear q2
                    try clear q24
                    obtain ⟨x7_2, x184003_2, u184003, rfl, HA, HK2, HO_184003, BK178, BK183, HB⟩ := hrel
                    cases gk with
                    | zero => exact absurd HA.out (by simp [incipitref21_Read.l0])
                    | succ k2 =>
                      have H := HA.out
                      clear HA
                      simp only [incipitref21_Read.l0] at H
                      by_cases c36 : 0 ≤ x7_2
                      · rw [if_pos c36] at H
                        have c36b0 := eq_true c36
                        have c36b1 : decide (0 ≤ x7_2) = true := decide_eq_true c36
                        clear c36
                        by_cases c37 : x7_2 ≤ (a0.size : Int)
                        · rw [if_pos c37] at H
                          have c37b0 := eq_true c37
                          have c37b1 : decide (x7_2 ≤ (a0.size : Int)) = true := decide_eq_true c37
                          clear c37
                          replace H := Option.bind_eq_some_iff.mp H
                          obtain ⟨⟨t184, t185, t186⟩, A380, H⟩ := H
                          replace H : (if t186 = 0 then ((incipitref08_Begins.f (a0.extract (x7_2 : Int).toNat a0.size) (⟨#[62]⟩ : ByteArray)).bind fun t191 => (if t191 = true then (some ((a0.extract 1 ((wrap64 (1 + t182)) : Int).toNat), false, false, x184003_2, wrap64 (x7_2 + 1))) else ((incipitref08_Begins.f (a0.extract (x7_2 : Int).toNat a0.size) (⟨#[32, 47, 62]⟩ : ByteArray)).bind fun t192 => (if t192 = true then (some ((a0.extract 1 ((wrap64 (1 + t182)) : Int).toNat), false, true, x184003_2, wrap64 (x7_2 + 3))) else (some ((⟨#[]⟩ : ByteArray), false, false, ([] : List (S45)), 0)))))) else (if x184003_2.length < 4398046511104 then (incipitref21_Read.l0 k2 a0 (wrap64 (x7_2 + t186)) (a0.extract 1 ((wrap64 (1 + t182)) : Int).toNat) false false (x184003_2 ++ [(⟨t184, t185⟩ : S45)])) else (none))) = some (r1, r2, r3, r4, r5) := H
                          have A38 := Aside0.mk A380
                          clear A380
                          by_cases c39 : t186 = 0
                          · rw [if_pos c39] at H
                            have c39b0 : (t186 == 0) = true := beq_iff_eq.mpr c39
                            have c39b1 : (t186 != 0) = false := bne_eq_false_iff_eq.mpr c39
                            clear c39
                            have c40b0 := eq_true (of_decide_eq_true (by first | (with_reducible assumption) | assumption) : 0 ≤ x7_2)
                            have c41b0 := eq_true (of_decide_eq_true (by first | (with_reducible assumption) | assumption) : x7_2 ≤ (a0.size : Int))
                            replace H := Option.bind_eq_some_iff.mp H
                            obtain ⟨t191, A420, H⟩ := H
                            replace H : (if t191 = true then (some ((a0.extract 1 ((wrap64 (1 + t182)) : Int).toNat), false, false, x184003_2, wrap64 (x7_2 + 1))) else ((incipitref08_Begins.f (a0.extract (x7_2 : Int).toNat a0.size) (⟨#[32, 47, 62]⟩ : ByteArray)).bind fun t192 => (if t192 = true then (some ((a0.extract 1 ((wrap64 (1 + t182)) : Int).toNat), false, true, x184003_2, wrap64 (x7_2 + 3))) else (some ((⟨#[]⟩ : ByteArray), false, false, ([] : List (S45)), 0))))) = some (r1, r2, r3, r4, r5) := H
                            have A42 := Aside0.mk A420
                            clear A420
                            by_cases c43 : t191 = true
                            · subst c43
                              have H1 : (some ((a0.extract 1 ((wrap64 (1 + t182)) : Int).toNat), false, false, x184003_2, wrap64 (x7_2 + 1))) = some (r1, r2, r3, r4, r5) := by rw [if_pos rfl] at H; exact H
                              clear H
                              have H := H1
                              clear H1
                              simp only [Option.some.injEq, Prod.mk.injEq] at H
                              obtain ⟨rfl, rfl, rfl, rfl, rfl⟩ := H
                              go_wp2_with (first | ((with_reducible refine gate_callee (f := 24) rfl ?_); refine goesL_ (some 58) rfl rfl Try.func24 (by kernel_rfl) rfl #[.string (a0.extract (x7_2 : Int).toNat a0.size)] rfl (by (try simp only [List.map_toArray, List.map_cons, List.map_nil]); first | done | rfl | (simp only [List.length_drop, List.length_take]; rfl)) ?_; (with_reducible refine (incipitref21_attribute.calls k2 (a0.extract (x7_2 : Int).toNat a0.size) t184 t185 t186 _ A38.out).mono ?_); rintro e w44 ⟨rfl, hb⟩; refine ⟨_, rfl, ?_⟩; have n0_ := Aside0.mk (Kd.R_below (by (with_reducible repeat (first | apply Kd.R_alloc | apply Kd.R_drewN | apply Kd.R_drew)); exact HO_184003.out) hb); have n1_ := Aside0.mk (blk_below (g := gb178) (o := .cells #[.string (⟨#[]⟩ : ByteArray), .bool false, .bool false, .slice none 0 0] 28 (0, 0)) (by (with_reducible repeat (first | refine blk_drewN ?_ _ | refine blk_drew ?_ | refine blk_alloc ?_ _)); exact BK178.out) hb); have n2_ := Aside0.mk (blk_below (g := gb183) (o := .cells #[.string (a0.extract 1 ((wrap64 (1 + t182)) : Int).toNat), .bool false, .bool false, u184003] 28 (0, 0)) (by (with_reducible repeat (first | refine blk_drewN ?_ _ | refine blk_drew ?_ | refine blk_alloc ?_ _)); exact BK183.out) hb); have n3_ := Aside0.mk (below_step (by repeat (first | (with_reducible first | exact HB.out | apply below_alloc | apply pw_below_drewN | apply below_drew1 | refine below_set ?_ GE178.out | refine below_set ?_ GE183.out) | exact HB.out)) hb); clear HO_184003; clear BK178; clear BK183; clear HB; have HO_184003 := n0_; have BK178 := n1_; have BK183 := n2_; have HB := n3_; clear n0_ n1_ n2_ n3_; (try clear hb); (try clear hb2); (try clear hk); (try clear hi)) | ((with_reducible refine gate_dst (N := 8) rfl ?_); refine box_event ?hg (N := 8) ?hd (cs := #[.string (⟨#[]⟩ : ByteArray), .string (⟨#[]⟩ : ByteArray)]) (t := 45) ?hr ?_; (case hd => rfl); (case hg => rfl); (case hr => first | (go_simp; done) | (go_simp; rfl)); intro gb187 hg w45 hbox hb; have n0_ := Aside0.mk (Kd.R_below (Kd.R_elderB (by (with_reducible repeat (first | apply Kd.R_alloc | apply Kd.R_drewN | apply Kd.R_drew)); exact HO_184003.out) gb187 (Nat.le_of_eq hg.symm)) hb); have n1_ := Aside0.mk (blk_below (g := gb178) (o := .cells #[.string (⟨#[]⟩ : ByteArray), .bool false, .bool false, .slice none 0 0] 28 (0, 0)) (by (with_reducible repeat (first | refine blk_drewN ?_ _ | refine blk_drew ?_ | refine blk_alloc ?_ _)); exact BK178.out) hb); have n2_ := Aside0.mk (blk_below (g := gb183) (o := .cells #[.string (a0.extract 1 ((wrap64 (1 + t182)) : Int).toNat), .bool false, .bool false, u184003] 28 (0, 0)) (by (with_reducible repeat (first | refine blk_drewN ?_ _ | refine blk_drew ?_ | refine blk_alloc ?_ _)); exact BK183.out) hb); have n3_ := Aside0.mk (below_step (by repeat (first | (with_reducible first | exact HB.out | apply below_alloc | apply pw_below_drewN | apply below_drew1 | refine below_set ?_ GE178.out | refine below_set ?_ GE183.out) | exact HB.out)) hb); have n4_ := Aside0.mk (hbox); have n5_ := Aside0.mk ((by rw [hg]; exact (below_size (by repeat (first | (with_reducible first | exact HB.out | apply below_alloc | apply pw_below_drewN | apply below_drew1 | refine below_set ?_ GE178.out | refine below_set ?_ GE183.out) | exact HB.out))) : w.heap.size ≤ gb187)); have n6_ := Aside0.mk ((by rw [hg]; exact (below_size (by repeat (first | (with_reducible first | exact HB.out | apply below_alloc | apply pw_below_drewN | apply below_drew1 | refine below_set ?_ GE178.out | refine below_set ?_ GE183.out) | exact HB.out))) : w.heap.size ≤ gb187)); have n7_ := Aside0.mk ((by rw [hg]; exact Nat.ne_of_lt (blk_lt (g := gb178) (o := .cells #[.string (⟨#[]⟩ : ByteArray), .bool false, .bool false, .slice none 0 0] 28 (0, 0)) (by (with_reducible repeat (first | refine blk_drewN ?_ _ | refine blk_drew ?_ | refine blk_alloc ?_ _)); exact BK178.out)) : gb178 ≠ gb187)); have n8_ := Aside0.mk ((by rw [hg]; exact Nat.ne_of_gt (blk_lt (g := gb178) (o := .cells #[.string (⟨#[]⟩ : ByteArray), .bool false, .bool false, .slice none 0 0] 28 (0, 0)) (by (with_reducible repeat (first | refine blk_drewN ?_ _ | refine blk_drew ?_ | refine blk_alloc ?_ _)); exact BK178.out)) : gb187 ≠ gb178)); have n9_ := Aside0.mk ((by rw [hg]; exact Nat.ne_of_lt (blk_lt (g := gb183) (o := .cells #[.string (a0.extract 1 ((wrap64 (1 + t182)) : Int).toNat), .bool false, .bool false, u184003] 28 (0, 0)) (by (with_reducible repeat (first | refine blk_drewN ?_ _ | refine blk_drew ?_ | refine blk_alloc ?_ _)); exact BK183.out)) : gb183 ≠ gb187)); have n10_ := Aside0.mk ((by rw [hg]; exact Nat.ne_of_gt (blk_lt (g := gb183) (o := .cells #[.string (a0.extract 1 ((wrap64 (1 + t182)) : Int).toNat), .bool false, .bool false, u184003] 28 (0, 0)) (by (with_reducible repeat (first | refine blk_drewN ?_ _ | refine blk_drew ?_ | refine blk_alloc ?_ _)); exact BK183.out)) : gb187 ≠ gb183)); clear HO_184003; clear BK178; clear BK183; clear HB; have HO_184003 := n0_; have BK178 := n1_; have BK183 := n2_; have HB := n3_; have BK187 := n4_; have GW187 := n5_; have GE187 := n6_; have NB178_187 := n7_; have NB187_178 := n8_; have NB183_187 := n9_; have NB187_183 := n10_; clear n0_ n1_ n2_ n3_ n4_ n5_ n6_ n7_ n8_ n9_ n10_; clear hb hbox hg; have hnb46 := NB187_178.out; have hnc46 := NB178_187.out; have hnb47 := NB187_183.out; have hnc47 := NB183_187.out; have hcz48_0 : w45.cell? ⟨gb187, 0, none⟩ = some (.string (⟨#[]⟩ : ByteArray)) := (blk_cell BK187.out 0).trans rfl; have hcz48_1 : w45.cell? ⟨gb187, 1, none⟩ = some (.string (⟨#[]⟩ : ByteArray)) := (blk_cell BK187.out 1).trans rfl; have hfz48_0 := blk_frozen BK187.out 0; have hfz48_1 := blk_frozen BK187.out 1) | ((with_reducible refine gate_callee (f := 22) rfl ?_); refine goesL_ (some 75) rfl rfl Try.func22 (by kernel_rfl) rfl #[.string (a0.extract (x7_2 : Int).toNat a0.size), .string (⟨#[62]⟩ : ByteArray)] rfl (by (try simp only [List.map_toArray, List.map_cons, List.map_nil]); first | done | rfl | (simp only [List.length_drop, List.length_take]; rfl)) ?_; (with_reducible refine (incipitref08_Begins.calls (a0.extract (x7_2 : Int).toNat a0.size) (⟨#[62]⟩ : ByteArray) true _ A42.out).mono ?_); rintro e w' ⟨rfl, ⟨nd, rfl⟩⟩; refine ⟨_, rfl, ?_⟩; have hnb49 := NB183_178.out; have hnc49 := NB178_183.out; have hcz50_0 : w45.cell? ⟨gb183, 0, none⟩ = some (.string (a0.extract 1 ((wrap64 (1 + t182)) : Int).toNat)) := (blk_cell BK183.out 0).trans rfl; have hcz50_1 : w45.cell? ⟨gb183, 1, none⟩ = some (.bool false) := (blk_cell BK183.out 1).trans rfl; have hcz50_2 : w45.cell? ⟨gb183, 2, none⟩ = some (.bool false) := (blk_cell BK183.out 2).trans rfl; have hcz50_3 : w45.cell? ⟨gb183, 3, none⟩ = some (u184003) := (blk_cell BK183.out 3).trans rfl; have hfz50_0 := blk_frozen BK183.out 0; have hfz50_1 := blk_frozen BK183.out 1; have hfz50_2 := blk_frozen BK183.out 2; have hfz50_3 := blk_frozen BK183.out 3; have hcz51_0 : w45.cell? ⟨gb178, 0, none⟩ = some (.string (⟨#[]⟩ : ByteArray)) := (blk_cell BK178.out 0).trans rfl; have hcz51_1 : w45.cell? ⟨gb178, 1, none⟩ = some (.bool false) := (blk_cell BK178.out 1).trans rfl; have hcz51_2 : w45.cell? ⟨gb178, 2, none⟩ = some (.bool false) := (blk_cell BK178.out 2).trans rfl; have hcz51_3 : w45.cell? ⟨gb178, 3, none⟩ = some (.slice none 0 0) := (blk_cell BK178.out 3).trans rfl; have hfz51_0 := blk_frozen BK178.out 0; have hfz51_1 := blk_frozen BK178.out 1; have hfz51_2 := blk_frozen BK178.out 2; have hfz51_3 := blk_frozen BK178.out 3; obtain ⟨Ao52, co52, eo52⟩ := Kd.R_slice HO_184003.out; subst eo52))
                              refine bodyPost_ret (results_ct rfl _ _ gb178 28 #[.string (a0.extract 1 ((wrap64 (1 + t182)) : Int).toNat), .bool false, .bool false, .slice Ao52 x184003_2.length co52] (0, 0) _ rfl (by (with_reducible repeat (first | refine blk_drewN ?_ _ | refine blk_drew ?_ | refine blk_alloc ?_ _)); refine blk_put (cs := #[.string (a0.extract 1 ((wrap64 (1 + t182)) : Int).toNat), .bool false, .bool false, .slice none 0 0]) ?_ 3 _ rfl; (with_reducible repeat (first | refine blk_drewN ?_ _ | refine blk_drew ?_ | refine blk_alloc ?_ _)); refine blk_put (cs := #[.string (a0.extract 1 ((wrap64 (1 + t182)) : Int).toNat), .bool false, .bool false, .slice none 0 0]) ?_ 2 _ rfl; (with_reducible repeat (first | refine blk_drewN ?_ _ | refine blk_drew ?_ | refine blk_alloc ?_ _)); refine blk_put (cs := #[.string (a0.extract 1 ((wrap64 (1 + t182)) : Int).toNat), .bool false, .bool false, .slice none 0 0]) ?_ 1 _ rfl; (with_reducible repeat (first | refine blk_drewN ?_ _ | refine blk_drew ?_ | refine blk_alloc ?_ _)); refine blk_put (cs := #[.string (⟨#[]⟩ : ByteArray), .bool false, .bool false, .slice none 0 0]) ?_ 0 _ rfl; (with_reducible repeat (first | refine blk_drewN ?_ _ | refine blk_drew ?_ | refine blk_alloc ?_ _)); refine blk_far ?_ NB178_187.out _; (with_reducible repeat (first | refine blk_drewN ?_ _ | refine blk_drew ?_ | refine blk_alloc ?_ _)); refine blk_far ?_ NB178_187.out _; (with_reducible repeat (first | refine blk_drewN ?_ _ | refine blk_drew ?_ | refine blk_alloc ?_ _)); exact BK178.out) Try.underlying28 rfl (by kernel_rfl)) rfl ?_
                              exact ⟨_, by first | rfl | (simp [errW_none, errW_some] <;> rfl) | (simp [*, errW_none, errW_some] <;> rfl), by (with_reducible repeat (first | apply Kd.R_alloc | apply Kd.R_drewN | apply Kd.R_drew)); exact Kd.R_mono (Kd.R_far (p := ⟨gb178, 3, none⟩) (Kd.R_far (p := ⟨gb178, 2, none⟩) (Kd.R_far (p := ⟨gb178, 1, none⟩) (Kd.R_far (p := ⟨gb178, 0, none⟩) (Kd.R_far (p := ⟨gb187, 1, none⟩) (Kd.R_far (p := ⟨gb187, 0, none⟩) (Kd.R_types (Kd.R_mono HO_184003.out (fun k_ hk => (⟨hk, hk.2⟩ : _ ∧ k_ ≠ gb187))) BK178.out (by decide)) (fun _ hk => hk.1.2) (.string t184)) (fun _ hk => hk.1.2) (.string t185)) (fun _ hk => hk.2) (.string (a0.extract 1 ((wrap64 (1 + t182)) : Int).toNat))) (fun _ hk => hk.2) (.bool false)) (fun _ hk => hk.2) (.bool false)) (fun _ hk => hk.2) (.slice Ao52 x184003_2.length co52)) (fun _ hk => trivial), by repeat (first | (with_reducible first | exact HB.out | apply below_alloc | apply pw_below_drewN | apply below_drew1 | refine below_set ?_ GE178.out | refine below_set ?_ GE183.out | refine below_set ?_ GE187.out) | exact HB.out)⟩
                            · replace c43 := Bool.eq_false_iff.mpr c43
                              subst c43
                              have H1 : ((incipitref08_Begins.f (a0.extract (x7_2 : Int).toNat a0.size) (⟨#[32, 47, 62]⟩ : ByteArray)).bind fun t192 => (if t192 = true then (some ((a0.extract 1 ((wrap64 (1 + t182)) : Int).toNat), false, true, x184003_2, wrap64 (x7_2 + 3))) else (some ((⟨#[]⟩ : ByteArray), false, false, ([] : List (S45)), 0)))) = some (r1, r2, r3, r4, r5) := by rw [if_neg (show ¬ (false = true) by decide)] at H; exact H
                              clear H
                              have H := H1
                              clear H1
                              have c53b0 := eq_true (of_decide_eq_true (by first | (with_reducible assumption) | assumption) : 0 ≤ x7_2)
                              have c54b0 := eq_true (of_decide_eq_true (by first | (with_reducible assumption) | assumption) : x7_2 ≤ (a0.size : Int))
                              replace H := Option.bind_eq_some_iff.mp H
                              obtain ⟨t192, A550, H⟩ := H
                              replace H : (if t192 = true then (some ((a0.extract 1 ((wrap64 (1 + t182)) : Int).toNat), false, true, x184003_2, wrap64 (x7_2 + 3))) else (some ((⟨#[]⟩ : ByteArray), false, false, ([] : List (S45)), 0))) = some (r1, r2, r3, r4, r5) := H
                              have A55 := Aside0.mk A550
                              clear A550
                              by_cases c56 : t192 = true
                              · subst c56
                                have H1 : (some ((a0.extract 1 ((wrap64 (1 + t182)) : Int).toNat), false, true, x184003_2, wrap64 (x7_2 + 3))) = some (r1, r2, r3, r4, r5) := by rw [if_pos rfl] at H; exact H
                                clear H
                                have H := H1
                                clear H1
                                simp only [Option.some.injEq, Prod.mk.injEq] at H
                                obtain ⟨rfl, rfl, rfl, rfl, rfl⟩ := H
                                go_wp2_with (first | ((with_reducible refine gate_callee (f := 24) rfl ?_); refine goesL_ (some 58) rfl rfl Try.func24 (by kernel_rfl) rfl #[.string (a0.extract (x7_2 : Int).toNat a0.size)] rfl (by (try simp only [List.map_toArray, List.map_cons, List.map_nil]); first | done | rfl | (simp only [List.length_drop, List.length_take]; rfl)) ?_; (with_reducible refine (incipitref21_attribute.calls k2 (a0.extract (x7_2 : Int).toNat a0.size) t184 t185 t186 _ A38.out).mono ?_); rintro e w57 ⟨rfl, hb⟩; refine ⟨_, rfl, ?_⟩; have n0_ := Aside0.mk (Kd.R_below (by (with_reducible repeat (first | apply Kd.R_alloc | apply Kd.R_drewN | apply Kd.R_drew)); exact HO_184003.out) hb); have n1_ := Aside0.mk (blk_below (g := gb178) (o := .cells #[.string (⟨#[]⟩ : ByteArray), .bool false, .bool false, .slice none 0 0] 28 (0, 0)) (by (with_reducible repeat (first | refine blk_drewN ?_ _ | refine blk_drew ?_ | refine blk_alloc ?_ _)); exact BK178.out) hb); have n2_ := Aside0.mk (blk_below (g := gb183) (o := .cells #[.string (a0.extract 1 ((wrap64 (1 + t182)) : Int).toNat), .bool false, .bool false, u184003] 28 (0, 0)) (by (with_reducible repeat (first | refine blk_drewN ?_ _ | refine blk_drew ?_ | refine blk_alloc ?_ _)); exact BK183.out) hb); have n3_ := Aside0.mk (below_step (by repeat (first | (with_reducible first | exact HB.out | apply below_alloc | apply pw_below_drewN | apply below_drew1 | refine below_set ?_ GE178.out | refine below_set ?_ GE183.out) | exact HB.out)) hb); clear HO_184003; clear BK178; clear BK183; clear HB; have HO_184003 := n0_; have BK178 := n1_; have BK183 := n2_; have HB := n3_; clear n0_ n1_ n2_ n3_; (try clear hb); (try clear hb2); (try clear hk); (try clear hi)) | ((with_reducible refine gate_dst (N := 8) rfl ?_); refine box_event ?hg (N := 8) ?hd (cs := #[.string (⟨#[]⟩ : ByteArray), .string (⟨#[]⟩ : ByteArray)]) (t := 45) ?hr ?_; (case hd => rfl); (case hg => rfl); (case hr => first | (go_simp; done) | (go_simp; rfl)); intro gb187 hg w58 hbox hb; have n0_ := Aside0.mk (Kd.R_below (Kd.R_elderB (by (with_reducible repeat (first | apply Kd.R_alloc | apply Kd.R_drewN | apply Kd.R_drew)); exact HO_184003.out) gb187 (Nat.le_of_eq hg.symm)) hb); have n1_ := Aside0.mk (blk_below (g := gb178) (o := .cells #[.string (⟨#[]⟩ : ByteArray), .bool false, .bool false, .slice none 0 0] 28 (0, 0)) (by (with_reducible repeat (first | refine blk_drewN ?_ _ | refine blk_drew ?_ | refine blk_alloc ?_ _)); exact BK178.out) hb); have n2_ := Aside0.mk (blk_below (g := gb183) (o := .cells #[.string (a0.extract 1 ((wrap64 (1 + t182)) : Int).toNat), .bool false, .bool false, u184003] 28 (0, 0)) (by (with_reducible repeat (first | refine blk_drewN ?_ _ | refine blk_drew ?_ | refine blk_alloc ?_ _)); exact BK183.out) hb); have n3_ := Aside0.mk (below_step (by repeat (first | (with_reducible first | exact HB.out | apply below_alloc | apply pw_below_drewN | apply below_drew1 | refine below_set ?_ GE178.out | refine below_set ?_ GE183.out) | exact HB.out)) hb); have n4_ := Aside0.mk (hbox); have n5_ := Aside0.mk ((by rw [hg]; exact (below_size (by repeat (first | (with_reducible first | exact HB.out | apply below_alloc | apply pw_below_drewN | apply below_drew1 | refine below_set ?_ GE178.out | refine below_set ?_ GE183.out) | exact HB.out))) : w.heap.size ≤ gb187)); have n6_ := Aside0.mk ((by rw [hg]; exact (below_size (by repeat (first | (with_reducible first | exact HB.out | apply below_alloc | apply pw_below_drewN | apply below_drew1 | refine below_set ?_ GE178.out | refine below_set ?_ GE183.out) | exact HB.out))) : w.heap.size ≤ gb187)); have n7_ := Aside0.mk ((by rw [hg]; exact Nat.ne_of_lt (blk_lt (g := gb178) (o := .cells #[.string (⟨#[]⟩ : ByteArray), .bool false, .bool false, .slice none 0 0] 28 (0, 0)) (by (with_reducible repeat (first | refine blk_drewN ?_ _ | refine blk_drew ?_ | refine blk_alloc ?_ _)); exact BK178.out)) : gb178 ≠ gb187)); have n8_ := Aside0.mk ((by rw [hg]; exact Nat.ne_of_gt (blk_lt (g := gb178) (o := .cells #[.string (⟨#[]⟩ : ByteArray), .bool false, .bool false, .slice none 0 0] 28 (0, 0)) (by (with_reducible repeat (first | refine blk_drewN ?_ _ | refine blk_drew ?_ | refine blk_alloc ?_ _)); exact BK178.out)) : gb187 ≠ gb178)); have n9_ := Aside0.mk ((by rw [hg]; exact Nat.ne_of_lt (blk_lt (g := gb183) (o := .cells #[.string (a0.extract 1 ((wrap64 (1 + t182)) : Int).toNat), .bool false, .bool false, u184003] 28 (0, 0)) (by (with_reducible repeat (first | refine blk_drewN ?_ _ | refine blk_drew ?_ | refine blk_alloc ?_ _)); exact BK183.out)) : gb183 ≠ gb187)); have n10_ := Aside0.mk ((by rw [hg]; exact Nat.ne_of_gt (blk_lt (g := gb183) (o := .cells #[.string (a0.extract 1 ((wrap64 (1 + t182)) : Int).toNat), .bool false, .bool false, u184003] 28 (0, 0)) (by (with_reducible repeat (first | refine blk_drewN ?_ _ | refine blk_drew ?_ | refine blk_alloc ?_ _)); exact BK183.out)) : gb187 ≠ gb183)); clear HO_184003; clear BK178; clear BK183; clear HB; have HO_184003 := n0_; have BK178 := n1_; have BK183 := n2_; have HB := n3_; have BK187 := n4_; have GW187 := n5_; have GE187 := n6_; have NB178_187 := n7_; have NB187_178 := n8_; have NB183_187 := n9_; have NB187_183 := n10_; clear n0_ n1_ n2_ n3_ n4_ n5_ n6_ n7_ n8_ n9_ n10_; clear hb hbox hg; have hnb59 := NB187_178.out; have hnc59 := NB178_187.out; have hnb60 := NB187_183.out; have hnc60 := NB183_187.out; have hcz61_0 : w58.cell? ⟨gb187, 0, none⟩ = some (.string (⟨#[]⟩ : ByteArray)) := (blk_cell BK187.out 0).trans rfl; have hcz61_1 : w58.cell? ⟨gb187, 1, none⟩ = some (.string (⟨#[]⟩ : ByteArray)) := (blk_cell BK187.out 1).trans rfl; have hfz61_0 := blk_frozen BK187.out 0; have hfz61_1 := blk_frozen BK187.out 1) | ((with_reducible refine gate_callee (f := 22) rfl ?_); refine goesL_ (some 75) rfl rfl Try.func22 (by kernel_rfl) rfl #[.string (a0.extract (x7_2 : Int).toNat a0.size), .string (⟨#[62]⟩ : ByteArray)] rfl (by (try simp only [List.map_toArray, List.map_cons, List.map_nil]); first | done | rfl | (simp only [List.length_drop, List.length_take]; rfl)) ?_; (with_reducible refine (incipitref08_Begins.calls (a0.extract (x7_2 : Int).toNat a0.size) (⟨#[62]⟩ : ByteArray) false _ A42.out).mono ?_); rintro e w' ⟨rfl, ⟨nd, rfl⟩⟩; refine ⟨_, rfl, ?_⟩) | ((with_reducible refine gate_callee (f := 22) rfl ?_); refine goesL_ (some 82) rfl rfl Try.func22 (by kernel_rfl) rfl #[.string (a0.extract (x7_2 : Int).toNat a0.size), .string (⟨#[32, 47, 62]⟩ : ByteArray)] rfl (by (try simp only [List.map_toArray, List.map_cons, List.map_nil]); first | done | rfl | (simp only [List.length_drop, List.length_take]; rfl)) ?_; (with_reducible refine (incipitref08_Begins.calls (a0.extract (x7_2 : Int).toNat a0.size) (⟨#[32, 47, 62]⟩ : ByteArray) true _ A55.out).mono ?_); rintro e w' ⟨rfl, ⟨nd, rfl⟩⟩; refine ⟨_, rfl, ?_⟩; have hnb62 := NB183_178.out; have hnc62 := NB178_183.out; have hcz63_0 : w58.cell? ⟨gb183, 0, none⟩ = some (.string (a0.extract 1 ((wrap64 (1 + t182)) : Int).toNat)) := (blk_cell BK183.out 0).trans rfl; have hcz63_1 : w58.cell? ⟨gb183, 1, none⟩ = some (.bool false) := (blk_cell BK183.out 1).trans rfl; have hcz63_2 : w58.cell? ⟨gb183, 2, none⟩ = some (.bool false) := (blk_cell BK183.out 2).trans rfl; have hcz63_3 : w58.cell? ⟨gb183, 3, none⟩ = some (u184003) := (blk_cell BK183.out 3).trans rfl; have hfz63_0 := blk_frozen BK183.out 0; have hfz63_1 := blk_frozen BK183.out 1; have hfz63_2 := blk_frozen BK183.out 2; have hfz63_3 := blk_frozen BK183.out 3; have hcz64_0 : w58.cell? ⟨gb178, 0, none⟩ = some (.string (⟨#[]⟩ : ByteArray)) := (blk_cell BK178.out 0).trans rfl; have hcz64_1 : w58.cell? ⟨gb178, 1, none⟩ = some (.bool false) := (blk_cell BK178.out 1).trans rfl; have hcz64_2 : w58.cell? ⟨gb178, 2, none⟩ = some (.bool false) := (blk_cell BK178.out 2).trans rfl; have hcz64_3 : w58.cell? ⟨gb178, 3, none⟩ = some (.slice none 0 0) := (blk_cell BK178.out 3).trans rfl; have hfz64_0 := blk_frozen BK178.out 0; have hfz64_1 := blk_frozen BK178.out 1; have hfz64_2 := blk_frozen BK178.out 2; have hfz64_3 := blk_frozen BK178.out 3; obtain ⟨Ao65, co65, eo65⟩ := Kd.R_slice HO_184003.out; subst eo65))
                                refine bodyPost_ret (results_ct rfl _ _ gb178 28 #[.string (a0.extract 1 ((wrap64 (1 + t182)) : Int).toNat), .bool false, .bool true, .slice Ao65 x184003_2.length co65] (0, 0) _ rfl (by (with_reducible repeat (first | refine blk_drewN ?_ _ | refine blk_drew ?_ | refine blk_alloc ?_ _)); refine blk_put (cs := #[.string (a0.extract 1 ((wrap64 (1 + t182)) : Int).toNat), .bool false, .bool true, .slice none 0 0]) ?_ 3 _ rfl; (with_reducible repeat (first | refine blk_drewN ?_ _ | refine blk_drew ?_ | refine blk_alloc ?_ _)); refine blk_put (cs := #[.string (a0.extract 1 ((wrap64 (1 + t182)) : Int).toNat), .bool false, .bool false, .slice none 0 0]) ?_ 2 _ rfl; (with_reducible repeat (first | refine blk_drewN ?_ _ | refine blk_drew ?_ | refine blk_alloc ?_ _)); refine blk_put (cs := #[.string (a0.extract 1 ((wrap64 (1 + t182)) : Int).toNat), .bool false, .bool false, .slice none 0 0]) ?_ 1 _ rfl; (with_reducible repeat (first | refine blk_drewN ?_ _ | refine blk_drew ?_ | refine blk_alloc ?_ _)); refine blk_put (cs := #[.string (⟨#[]⟩ : ByteArray), .bool false, .bool false, .slice none 0 0]) ?_ 0 _ rfl; (with_reducible repeat (first | refine blk_drewN ?_ _ | refine blk_drew ?_ | refine blk_alloc ?_ _)); refine blk_far ?_ NB178_183.out _; (with_reducible repeat (first | refine blk_drewN ?_ _ | refine blk_drew ?_ | refine blk_alloc ?_ _)); refine blk_far ?_ NB178_187.out _; (with_reducible repeat (first | refine blk_drewN ?_ _ | refine blk_drew ?_ | refine blk_alloc ?_ _)); refine blk_far ?_ NB178_187.out _; (with_reducible repeat (first | refine blk_drewN ?_ _ | refine blk_drew ?_ | refine blk_alloc ?_ _)); exact BK178.out) Try.underlying28 rfl (by kernel_rfl)) rfl ?_
                                exact ⟨_, by first | rfl | (simp [errW_none, errW_some] <;> rfl) | (simp [*, errW_none, errW_some] <;> rfl), by (with_reducible repeat (first | apply Kd.R_alloc | apply Kd.R_drewN | apply Kd.R_drew)); exact Kd.R_mono (Kd.R_far (p := ⟨gb178, 3, none⟩) (Kd.R_far (p := ⟨gb178, 2, none⟩) (Kd.R_far (p := ⟨gb178, 1, none⟩) (Kd.R_far (p := ⟨gb178, 0, none⟩) (Kd.R_far (p := ⟨gb183, 2, none⟩) (Kd.R_far (p := ⟨gb187, 1, none⟩) (Kd.R_far (p := ⟨gb187, 0, none⟩) (Kd.R_types (Kd.R_types (Kd.R_mono HO_184003.out (fun k_ hk => (⟨hk, hk.2⟩ : _ ∧ k_ ≠ gb187))) BK183.out (by decide)) BK178.out (by decide)) (fun _ hk => hk.1.1.2) (.string t184)) (fun _ hk => hk.1.1.2) (.string t185)) (fun _ hk => hk.1.2) (.bool true)) (fun _ hk => hk.2) (.string (a0.extract 1 ((wrap64 (1 + t182)) : Int).toNat))) (fun _ hk => hk.2) (.bool false)) (fun _ hk => hk.2) (.bool true)) (fun _ hk => hk.2) (.slice Ao65 x184003_2.length co65)) (fun _ hk => trivial), by repeat (first | (with_reducible first | exact HB.out | apply below_alloc | apply pw_below_drewN | apply below_drew1 | refine below_set ?_ GE178.out | refine below_set ?_ GE183.out | refine below_set ?_ GE187.out) | exact HB.out)⟩
                              · replace c56 := Bool.eq_false_iff.mpr c56
                                subst c56
                                have H1 : (some ((⟨#[]⟩ : ByteArray), false, false, ([] : List (S45)), 0)) = some (r1, r2, r3, r4, r5) := by rw [if_neg (show ¬ (false = true) by decide)] at H; exact H
                                clear H
                                have H := H1
                                clear H1
                                simp only [Option.some.injEq, Prod.mk.injEq] at H
                                obtain ⟨rfl, rfl, rfl, rfl, rfl⟩ := H
                                go_wp2_with (first | ((with_reducible refine gate_callee (f := 24) rfl ?_); refine goesL_ (some 58) rfl rfl Try.func24 (by kernel_rfl) rfl #[.string (a0.extract (x7_2 : Int).toNat a0.size)] rfl (by (try simp only [List.map_toArray, List.map_cons, List.map_nil]); first | done | rfl | (simp only [List.length_drop, List.length_take]; rfl)) ?_; (with_reducible refine (incipitref21_attribute.calls k2 (a0.extract (x7_2 : Int).toNat a0.size) t184 t185 t186 _ A38.out).mono ?_); rintro e w66 ⟨rfl, hb⟩; refine ⟨_, rfl, ?_⟩; have n0_ := Aside0.mk (Kd.R_below (by (with_reducible repeat (first | apply Kd.R_alloc | apply Kd.R_drewN | apply Kd.R_drew)); exact HO_184003.out) hb); have n1_ := Aside0.mk (blk_below (g := gb178) (o := .cells #[.string (⟨#[]⟩ : ByteArray), .bool false, .bool false, .slice none 0 0] 28 (0, 0)) (by (with_reducible repeat (first | refine blk_drewN ?_ _ | refine blk_drew ?_ | refine blk_alloc ?_ _)); exact BK178.out) hb); have n2_ := Aside0.mk (blk_below (g := gb183) (o := .cells #[.string (a0.extract 1 ((wrap64 (1 + t182)) : Int).toNat), .bool false, .bool false, u184003] 28 (0, 0)) (by (with_reducible repeat (first | refine blk_drewN ?_ _ | refine blk_drew ?_ | refine blk_alloc ?_ _)); exact BK183.out) hb); have n3_ := Aside0.mk (below_step (by repeat (first | (with_reducible first | exact HB.out | apply below_alloc | apply pw_below_drewN | apply below_drew1 | refine below_set ?_ GE178.out | refine below_set ?_ GE183.out) | exact HB.out)) hb); clear HO_184003; clear BK178; clear BK183; clear HB; have HO_184003 := n0_; have BK178 := n1_; have BK183 := n2_; have HB := n3_; clear n0_ n1_ n2_ n3_; (try clear hb); (try clear hb2); (try clear hk); (try clear hi)) | ((with_reducible refine gate_dst (N := 8) rfl ?_); refine box_event ?hg (N := 8) ?hd (cs := #[.string (⟨#[]⟩ : ByteArray), .string (⟨#[]⟩ : ByteArray)]) (t := 45) ?hr ?_; (case hd => rfl); (case hg => rfl); (case hr => first | (go_simp; done) | (go_simp; rfl)); intro gb187 hg w67 hbox hb; have n0_ := Aside0.mk (Kd.R_below (Kd.R_elderB (by (with_reducible repeat (first | apply Kd.R_alloc | apply Kd.R_drewN | apply Kd.R_drew)); exact HO_184003.out) gb187 (Nat.le_of_eq hg.symm)) hb); have n1_ := Aside0.mk (blk_below (g := gb178) (o := .cells #[.string (⟨#[]⟩ : ByteArray), .bool false, .bool false, .slice none 0 0] 28 (0, 0)) (by (with_reducible repeat (first | refine blk_drewN ?_ _ | refine blk_drew ?_ | refine blk_alloc ?_ _)); exact BK178.out) hb); have n2_ := Aside0.mk (blk_below (g := gb183) (o := .cells #[.string (a0.extract 1 ((wrap64 (1 + t182)) : Int).toNat), .bool false, .bool false, u184003] 28 (0, 0)) (by (with_reducible repeat (first | refine blk_drewN ?_ _ | refine blk_drew ?_ | refine blk_alloc ?_ _)); exact BK183.out) hb); have n3_ := Aside0.mk (below_step (by repeat (first | (with_reducible first | exact HB.out | apply below_alloc | apply pw_below_drewN | apply below_drew1 | refine below_set ?_ GE178.out | refine below_set ?_ GE183.out) | exact HB.out)) hb); have n4_ := Aside0.mk (hbox); have n5_ := Aside0.mk ((by rw [hg]; exact (below_size (by repeat (first | (with_reducible first | exact HB.out | apply below_alloc | apply pw_below_drewN | apply below_drew1 | refine below_set ?_ GE178.out | refine below_set ?_ GE183.out) | exact HB.out))) : w.heap.size ≤ gb187)); have n6_ := Aside0.mk ((by rw [hg]; exact (below_size (by repeat (first | (with_reducible first | exact HB.out | apply below_alloc | apply pw_below_drewN | apply below_drew1 | refine below_set ?_ GE178.out | refine below_set ?_ GE183.out) | exact HB.out))) : w.heap.size ≤ gb187)); have n7_ := Aside0.mk ((by rw [hg]; exact Nat.ne_of_lt (blk_lt (g := gb178) (o := .cells #[.string (⟨#[]⟩ : ByteArray), .bool false, .bool false, .slice none 0 0] 28 (0, 0)) (by (with_reducible repeat (first | refine blk_drewN ?_ _ | refine blk_drew ?_ | refine blk_alloc ?_ _)); exact BK178.out)) : gb178 ≠ gb187)); have n8_ := Aside0.mk ((by rw [hg]; exact Nat.ne_of_gt (blk_lt (g := gb178) (o := .cells #[.string (⟨#[]⟩ : ByteArray), .bool false, .bool false, .slice none 0 0] 28 (0, 0)) (by (with_reducible repeat (first | refine blk_drewN ?_ _ | refine blk_drew ?_ | refine blk_alloc ?_ _)); exact BK178.out)) : gb187 ≠ gb178)); have n9_ := Aside0.mk ((by rw [hg]; exact Nat.ne_of_lt (blk_lt (g := gb183) (o := .cells #[.string (a0.extract 1 ((wrap64 (1 + t182)) : Int).toNat), .bool false, .bool false, u184003] 28 (0, 0)) (by (with_reducible repeat (first | refine blk_drewN ?_ _ | refine blk_drew ?_ | refine blk_alloc ?_ _)); exact BK183.out)) : gb183 ≠ gb187)); have n10_ := Aside0.mk ((by rw [hg]; exact Nat.ne_of_gt (blk_lt (g := gb183) (o := .cells #[.string (a0.extract 1 ((wrap64 (1 + t182)) : Int).toNat), .bool false, .bool false, u184003] 28 (0, 0)) (by (with_reducible repeat (first | refine blk_drewN ?_ _ | refine blk_drew ?_ | refine blk_alloc ?_ _)); exact BK183.out)) : gb187 ≠ gb183)); clear HO_184003; clear BK178; clear BK183; clear HB; have HO_184003 := n0_; have BK178 := n1_; have BK183 := n2_; have HB := n3_; have BK187 := n4_; have GW187 := n5_; have GE187 := n6_; have NB178_187 := n7_; have NB187_178 := n8_; have NB183_187 := n9_; have NB187_183 := n10_; clear n0_ n1_ n2_ n3_ n4_ n5_ n6_ n7_ n8_ n9_ n10_; clear hb hbox hg; have hnb68 := NB187_178.out; have hnc68 := NB178_187.out; have hnb69 := NB187_183.out; have hnc69 := NB183_187.out; have hcz70_0 : w67.cell? ⟨gb187, 0, none⟩ = some (.string (⟨#[]⟩ : ByteArray)) := (blk_cell BK187.out 0).trans rfl; have hcz70_1 : w67.cell? ⟨gb187, 1, none⟩ = some (.string (⟨#[]⟩ : ByteArray)) := (blk_cell BK187.out 1).trans rfl; have hfz70_0 := blk_frozen BK187.out 0; have hfz70_1 := blk_frozen BK187.out 1) | ((with_reducible refine gate_callee (f := 22) rfl ?_); refine goesL_ (some 75) rfl rfl Try.func22 (by kernel_rfl) rfl #[.string (a0.extract (x7_2 : Int).toNat a0.size), .string (⟨#[62]⟩ : ByteArray)] rfl (by (try simp only [List.map_toArray, List.map_cons, List.map_nil]); first | done | rfl | (simp only [List.length_drop, List.length_take]; rfl)) ?_; (with_reducible refine (incipitref08_Begins.calls (a0.extract (x7_2 : Int).toNat a0.size) (⟨#[62]⟩ : ByteArray) false _ A42.out).mono ?_); rintro e w' ⟨rfl, ⟨nd, rfl⟩⟩; refine ⟨_, rfl, ?_⟩) | ((with_reducible refine gate_callee (f := 22) rfl ?_); refine goesL_ (some 82) rfl rfl Try.func22 (by kernel_rfl) rfl #[.string (a0.extract (x7_2 : Int).toNat a0.size), .string (⟨#[32, 47, 62]⟩ : ByteArray)] rfl (by (try simp only [List.map_toArray, List.map_cons, List.map_nil]); first | done | rfl | (simp only [List.length_drop, List.length_take]; rfl)) ?_; (with_reducible refine (incipitref08_Begins.calls (a0.extract (x7_2 : Int).toNat a0.size) (⟨#[32, 47, 62]⟩ : ByteArray) false _ A55.out).mono ?_); rintro e w' ⟨rfl, ⟨nd, rfl⟩⟩; refine ⟨_, rfl, ?_⟩; have hnb71 := NB178_183.out; have hnc71 := NB183_178.out; have hcz72_0 : w67.cell? ⟨gb178, 0, none⟩ = some (.string (⟨#[]⟩ : ByteArray)) := (blk_cell BK178.out 0).trans rfl; have hcz72_1 : w67.cell? ⟨gb178, 1, none⟩ = some (.bool false) := (blk_cell BK178.out 1).trans rfl; have hcz72_2 : w67.cell? ⟨gb178, 2, none⟩ = some (.bool false) := (blk_cell BK178.out 2).trans rfl; have hcz72_3 : w67.cell? ⟨gb178, 3, none⟩ = some (.slice none 0 0) := (blk_cell BK178.out 3).trans rfl; have hfz72_0 := blk_frozen BK178.out 0; have hfz72_1 := blk_frozen BK178.out 1; have hfz72_2 := blk_frozen BK178.out 2; have hfz72_3 := blk_frozen BK178.out 3))
                                refine bodyPost_ret (results_ct rfl _ _ gb178 28 #[.string (⟨#[]⟩ : ByteArray), .bool false, .bool false, .slice none 0 0] (0, 0) _ rfl (by (with_reducible repeat (first | refine blk_drewN ?_ _ | refine blk_drew ?_ | refine blk_alloc ?_ _)); refine blk_put (cs := #[.string (⟨#[]⟩ : ByteArray), .bool false, .bool false, .slice none 0 0]) ?_ 3 _ rfl; (with_reducible repeat (first | refine blk_drewN ?_ _ | refine blk_drew ?_ | refine blk_alloc ?_ _)); refine blk_put (cs := #[.string (⟨#[]⟩ : ByteArray), .bool false, .bool false, .slice none 0 0]) ?_ 2 _ rfl; (with_reducible repeat (first | refine blk_drewN ?_ _ | refine blk_drew ?_ | refine blk_alloc ?_ _)); refine blk_put (cs := #[.string (⟨#[]⟩ : ByteArray), .bool false, .bool false, .slice none 0 0]) ?_ 1 _ rfl; (with_reducible repeat (first | refine blk_drewN ?_ _ | refine blk_drew ?_ | refine blk_alloc ?_ _)); refine blk_put (cs := #[.string (⟨#[]⟩ : ByteArray), .bool false, .bool false, .slice none 0 0]) ?_ 0 _ rfl; (with_reducible repeat (first | refine blk_drewN ?_ _ | refine blk_drew ?_ | refine blk_alloc ?_ _)); refine blk_far ?_ NB178_187.out _; (with_reducible repeat (first | refine blk_drewN ?_ _ | refine blk_drew ?_ | refine blk_alloc ?_ _)); refine blk_far ?_ NB178_187.out _; (with_reducible repeat (first | refine blk_drewN ?_ _ | refine blk_drew ?_ | refine blk_alloc ?_ _)); exact BK178.out) Try.underlying28 rfl (by kernel_rfl)) rfl ?_
                                exact ⟨_, by first | rfl | (simp [errW_none, errW_some] <;> rfl) | (simp [*, errW_none, errW_some] <;> rfl), by first | exact Kd.R_nil _ _ _ _ _ | exact Kd.N_nil _ _ _ _ _ | exact Kd.V_nil _ _ _ _ _ | exact Kd.Q_nil _ _ _ _ _ | exact Kd.S_nil _ _ _ _ _, by repeat (first | (with_reducible first | exact HB.out | apply below_alloc | apply pw_below_drewN | apply below_drew1 | refine below_set ?_ GE178.out | refine below_set ?_ GE183.out | refine below_set ?_ GE187.out) | exact HB.out)⟩
                          · rw [if_neg c39] at H
                            have c39b0 : (t186 == 0) = false := beq_eq_false_iff_ne.mpr c39
                            have c39b1 : (t186 != 0) = true := bne_iff_ne.mpr c39
                            by_cases c73 : x184003_2.length < 4398046511104
                            · rw [if_pos c73] at H
                              have LMc73 := Aside0.mk c73
                              clear c73
                              obtain ⟨y188, hy188⟩ : ∃ y_ : List (S45), y_ = (x184003_2 ++ [(⟨t184, t185⟩ : S45)]) := ⟨_, rfl⟩
                              replace H : (incipitref21_Read.l0 k2 a0 (wrap64 (x7_2 + t186)) (a0.extract 1 ((wrap64 (1 + t182)) : Int).toNat) false false y188) = some (r1, r2, r3, r4, r5) := by first | (rw [hy188]; with_reducible exact H) | (have H2_ := (Option.bind_some _ _).symm.trans H; rw [hy188]; with_reducible exact H2_) | (have H2_ := (Option.bind_some _ _).symm.trans H; with_reducible exact H2_) | with_reducible exact H | (rw [hy188]; exact H) | exact H
                              have Ny188 := Aside0.mk hy188
                              clear hy188
                              have H' := Aside0.mk H
                              clear H
                              go_wp2_with (first | ((with_reducible refine gate_callee (f := 24) rfl ?_); refine goesL_ (some 58) rfl rfl Try.func24 (by kernel_rfl) rfl #[.string (a0.extract (x7_2 : Int).toNat a0.size)] rfl (by (try simp only [List.map_toArray, List.map_cons, List.map_nil]); first | done | rfl | (simp only [List.length_drop, List.length_take]; rfl)) ?_; (with_reducible refine (incipitref21_attribute.calls k2 (a0.extract (x7_2 : Int).toNat a0.size) t184 t185 t186 _ A38.out).mono ?_); rintro e w74 ⟨rfl, hb⟩; refine ⟨_, rfl, ?_⟩; have n0_ := Aside0.mk (Kd.R_below (by (with_reducible repeat (first | apply Kd.R_alloc | apply Kd.R_drewN | apply Kd.R_drew)); exact HO_184003.out) hb); have n1_ := Aside0.mk (blk_below (g := gb178) (o := .cells #[.string (⟨#[]⟩ : ByteArray), .bool false, .bool false, .slice none 0 0] 28 (0, 0)) (by (with_reducible repeat (first | refine blk_drewN ?_ _ | refine blk_drew ?_ | refine blk_alloc ?_ _)); exact BK178.out) hb); have n2_ := Aside0.mk (blk_below (g := gb183) (o := .cells #[.string (a0.extract 1 ((wrap64 (1 + t182)) : Int).toNat), .bool false, .bool false, u184003] 28 (0, 0)) (by (with_reducible repeat (first | refine blk_drewN ?_ _ | refine blk_drew ?_ | refine blk_alloc ?_ _)); exact BK183.out) hb); have n3_ := Aside0.mk (below_step (by repeat (first | (with_reducible first | exact HB.out | apply below_alloc | apply pw_below_drewN | apply below_drew1 | refine below_set ?_ GE178.out | refine below_set ?_ GE183.out) | exact HB.out)) hb); clear HO_184003; clear BK178; clear BK183; clear HB; have HO_184003 := n0_; have BK178 := n1_; have BK183 := n2_; have HB := n3_; clear n0_ n1_ n2_ n3_; (try clear hb); (try clear hb2); (try clear hk); (try clear hi)) | ((with_reducible refine gate_dst (N := 8) rfl ?_); refine box_event ?hg (N := 8) ?hd (cs := #[.string (⟨#[]⟩ : ByteArray), .string (⟨#[]⟩ : ByteArray)]) (t := 45) ?hr ?_; (case hd => rfl); (case hg => rfl); (case hr => first | (go_simp; done) | (go_simp; rfl)); intro gb187 hg w75 hbox hb; have n0_ := Aside0.mk (Kd.R_below (Kd.R_elderB (by (with_reducible repeat (first | apply Kd.R_alloc | apply Kd.R_drewN | apply Kd.R_drew)); exact HO_184003.out) gb187 (Nat.le_of_eq hg.symm)) hb); have n1_ := Aside0.mk (blk_below (g := gb178) (o := .cells #[.string (⟨#[]⟩ : ByteArray), .bool false, .bool false, .slice none 0 0] 28 (0, 0)) (by (with_reducible repeat (first | refine blk_drewN ?_ _ | refine blk_drew ?_ | refine blk_alloc ?_ _)); exact BK178.out) hb); have n2_ := Aside0.mk (blk_below (g := gb183) (o := .cells #[.string (a0.extract 1 ((wrap64 (1 + t182)) : Int).toNat), .bool false, .bool false, u184003] 28 (0, 0)) (by (with_reducible repeat (first | refine blk_drewN ?_ _ | refine blk_drew ?_ | refine blk_alloc ?_ _)); exact BK183.out) hb); have n3_ := Aside0.mk (below_step (by repeat (first | (with_reducible first | exact HB.out | apply below_alloc | apply pw_below_drewN | apply below_drew1 | refine below_set ?_ GE178.out | refine below_set ?_ GE183.out) | exact HB.out)) hb); have n4_ := Aside0.mk (hbox); have n5_ := Aside0.mk ((by rw [hg]; exact (below_size (by repeat (first | (with_reducible first | exact HB.out | apply below_alloc | apply pw_below_drewN | apply below_drew1 | refine below_set ?_ GE178.out | refine below_set ?_ GE183.out) | exact HB.out))) : w.heap.size ≤ gb187)); have n6_ := Aside0.mk ((by rw [hg]; exact (below_size (by repeat (first | (with_reducible first | exact HB.out | apply below_alloc | apply pw_below_drewN | apply below_drew1 | refine below_set ?_ GE178.out | refine below_set ?_ GE183.out) | exact HB.out))) : w.heap.size ≤ gb187)); have n7_ := Aside0.mk ((by rw [hg]; exact Nat.ne_of_lt (blk_lt (g := gb178) (o := .cells #[.string (⟨#[]⟩ : ByteArray), .bool false, .bool false, .slice none 0 0] 28 (0, 0)) (by (with_reducible repeat (first | refine blk_drewN ?_ _ | refine blk_drew ?_ | refine blk_alloc ?_ _)); exact BK178.out)) : gb178 ≠ gb187)); have n8_ := Aside0.mk ((by rw [hg]; exact Nat.ne_of_gt (blk_lt (g := gb178) (o := .cells #[.string (⟨#[]⟩ : ByteArray), .bool false, .bool false, .slice none 0 0] 28 (0, 0)) (by (with_reducible repeat (first | refine blk_drewN ?_ _ | refine blk_drew ?_ | refine blk_alloc ?_ _)); exact BK178.out)) : gb187 ≠ gb178)); have n9_ := Aside0.mk ((by rw [hg]; exact Nat.ne_of_lt (blk_lt (g := gb183) (o := .cells #[.string (a0.extract 1 ((wrap64 (1 + t182)) : Int).toNat), .bool false, .bool false, u184003] 28 (0, 0)) (by (with_reducible repeat (first | refine blk_drewN ?_ _ | refine blk_drew ?_ | refine blk_alloc ?_ _)); exact BK183.out)) : gb183 ≠ gb187)); have n10_ := Aside0.mk ((by rw [hg]; exact Nat.ne_of_gt (blk_lt (g := gb183) (o := .cells #[.string (a0.extract 1 ((wrap64 (1 + t182)) : Int).toNat), .bool false, .bool false, u184003] 28 (0, 0)) (by (with_reducible repeat (first | refine blk_drewN ?_ _ | refine blk_drew ?_ | refine blk_alloc ?_ _)); exact BK183.out)) : gb187 ≠ gb183)); clear HO_184003; clear BK178; clear BK183; clear HB; have HO_184003 := n0_; have BK178 := n1_; have BK183 := n2_; have HB := n3_; have BK187 := n4_; have GW187 := n5_; have GE187 := n6_; have NB178_187 := n7_; have NB187_178 := n8_; have NB183_187 := n9_; have NB187_183 := n10_; clear n0_ n1_ n2_ n3_ n4_ n5_ n6_ n7_ n8_ n9_ n10_; clear hb hbox hg; have hnb76 := NB187_178.out; have hnc76 := NB178_187.out; have hnb77 := NB187_183.out; have hnc77 := NB183_187.out; have hcz78_0 : w75.cell? ⟨gb187, 0, none⟩ = some (.string (⟨#[]⟩ : ByteArray)) := (blk_cell BK187.out 0).trans rfl; have hcz78_1 : w75.cell? ⟨gb187, 1, none⟩ = some (.string (⟨#[]⟩ : ByteArray)) := (blk_cell BK187.out 1).trans rfl; have hfz78_0 := blk_frozen BK187.out 0; have hfz78_1 := blk_frozen BK187.out 1; have hnb79 := NB183_178.out; have hnc79 := NB178_183.out; have hcz80_0 : w75.cell? ⟨gb183, 0, none⟩ = some (.string (a0.extract 1 ((wrap64 (1 + t182)) : Int).toNat)) := (blk_cell BK183.out 0).trans rfl; have hcz80_1 : w75.cell? ⟨gb183, 1, none⟩ = some (.bool false) := (blk_cell BK183.out 1).trans rfl; have hcz80_2 : w75.cell? ⟨gb183, 2, none⟩ = some (.bool false) := (blk_cell BK183.out 2).trans rfl; have hcz80_3 : w75.cell? ⟨gb183, 3, none⟩ = some (u184003) := (blk_cell BK183.out 3).trans rfl; have hfz80_0 := blk_frozen BK183.out 0; have hfz80_1 := blk_frozen BK183.out 1; have hfz80_2 := blk_frozen BK183.out 2; have hfz80_3 := blk_frozen BK183.out 3) | ((with_reducible refine gate_builtin (b := .append) (xs := #[.tmp 64, .tmp 66]) rfl ?_); at_builtin; refine Kd.R_append k45 (w0 := w) w.heap.size rfl (.tmp 64) (.tmp 66) 23 45 (.agg #[(.string ⟨#[]⟩), (.string ⟨#[]⟩)]) 32 rfl Try.underlying23 info45 rfl (by decide) (by omega) u184003 x184003_2 (⟨t184, t185⟩ : S45) [.string t184, .string t185] (fun k_ => k_ ≠ gb187) (fun _ => False) rfl (by first | (go_simp; done) | (go_simp; rfl)) ?aP (fun _ hk => hk.elim) ?aF ?aO ?aB ?aS ?aL ?_; (case aP => exact k45_mkM _ _ _ (⟨t184, t185⟩ : S45)); (case aB => exact (by repeat (first | (with_reducible first | exact HB.out | apply below_alloc | apply pw_below_drewN | apply below_drew1 | refine below_set ?_ GE178.out | refine below_set ?_ GE183.out | refine below_set ?_ GE187.out) | exact HB.out))); (case aF => exact (fun k_ hk => Kd.freshB (g := gb187) (o := .cells #[.string t184, .string t185] 45 (0, 0)) (by (with_reducible repeat (first | refine blk_drewN ?_ _ | refine blk_drew ?_ | refine blk_alloc ?_ _)); refine blk_put (cs := #[.string t184, .string (⟨#[]⟩ : ByteArray)]) ?_ 1 _ rfl; (with_reducible repeat (first | refine blk_drewN ?_ _ | refine blk_drew ?_ | refine blk_alloc ?_ _)); refine blk_put (cs := #[.string (⟨#[]⟩ : ByteArray), .string (⟨#[]⟩ : ByteArray)]) ?_ 0 _ rfl; (with_reducible repeat (first | refine blk_drewN ?_ _ | refine blk_drew ?_ | refine blk_alloc ?_ _)); exact BK187.out) k_ hk)); (case aO => exact (by (with_reducible repeat (first | apply Kd.R_alloc | apply Kd.R_drewN | apply Kd.R_drew)); exact Kd.R_mono (Kd.R_far (p := ⟨gb187, 1, none⟩) (Kd.R_far (p := ⟨gb187, 0, none⟩) (Kd.R_mono HO_184003.out (fun k_ hk => (⟨hk, hk.2⟩ : _ ∧ k_ ≠ gb187))) (fun _ hk => hk.2) (.string t184)) (fun _ hk => hk.2) (.string t185)) (fun _ hk => hk.1.2))); (case aS => exact (below_size (by repeat (first | (with_reducible first | exact HB.out | apply below_alloc | apply pw_below_drewN | apply below_drew1 | refine below_set ?_ GE178.out | refine below_set ?_ GE183.out | refine below_set ?_ GE187.out) | exact HB.out)))); (case aL => have := LMc73.out; omega); intro v189 w81 ho hb hg hat; rw [← Ny188.out] at ho; have n0_ := Aside0.mk (blk_grown (g := gb178) (o := .cells #[.string (⟨#[]⟩ : ByteArray), .bool false, .bool false, .slice none 0 0] 28 (0, 0)) (by (with_reducible repeat (first | refine blk_drewN ?_ _ | refine blk_drew ?_ | refine blk_alloc ?_ _)); refine blk_far ?_ NB178_187.out _; (with_reducible repeat (first | refine blk_drewN ?_ _ | refine blk_drew ?_ | refine blk_alloc ?_ _)); refine blk_far ?_ NB178_187.out _; (with_reducible repeat (first | refine blk_drewN ?_ _ | refine blk_drew ?_ | refine blk_alloc ?_ _)); exact BK178.out) hg (Kd.R_ne HO_184003.out BK178.out (by decide))); have n1_ := Aside0.mk (blk_grown (g := gb183) (o := .cells #[.string (a0.extract 1 ((wrap64 (1 + t182)) : Int).toNat), .bool false, .bool false, u184003] 28 (0, 0)) (by (with_reducible repeat (first | refine blk_drewN ?_ _ | refine blk_drew ?_ | refine blk_alloc ?_ _)); refine blk_far ?_ NB183_187.out _; (with_reducible repeat (first | refine blk_drewN ?_ _ | refine blk_drew ?_ | refine blk_alloc ?_ _)); refine blk_far ?_ NB183_187.out _; (with_reducible repeat (first | refine blk_drewN ?_ _ | refine blk_drew ?_ | refine blk_alloc ?_ _)); exact BK183.out) hg (Kd.R_ne HO_184003.out BK183.out (by decide))); have n2_ := Aside0.mk (blk_grown (g := gb187) (o := .cells #[.string t184, .string t185] 45 (0, 0)) (by (with_reducible repeat (first | refine blk_drewN ?_ _ | refine blk_drew ?_ | refine blk_alloc ?_ _)); refine blk_put (cs := #[.string t184, .string (⟨#[]⟩ : ByteArray)]) ?_ 1 _ rfl; (with_reducible repeat (first | refine blk_drewN ?_ _ | refine blk_drew ?_ | refine blk_alloc ?_ _)); refine blk_put (cs := #[.string (⟨#[]⟩ : ByteArray), .string (⟨#[]⟩ : ByteArray)]) ?_ 0 _ rfl; (with_reducible repeat (first | refine blk_drewN ?_ _ | refine blk_drew ?_ | refine blk_alloc ?_ _)); exact BK187.out) hg (Kd.R_away HO_184003.out (fun _ hk => hk.2))); have n3_ := Aside0.mk (hb); have n4_ := Aside0.mk (ho); clear BK178; clear BK183; clear BK187; clear HB; clear HO_184003; have BK178 := n0_; have BK183 := n1_; have BK187 := n2_; have HB := n3_; have HO190 := n4_; clear n0_ n1_ n2_ n3_ n4_; clear ho hb hg hat; obtain ⟨Ao82, co82, eo82⟩ := Kd.R_slice HO190.out; subst eo82; have hcz83_0 : w81.cell? ⟨gb183, 0, none⟩ = some (.string (a0.extract 1 ((wrap64 (1 + t182)) : Int).toNat)) := (blk_cell BK183.out 0).trans rfl; have hcz83_1 : w81.cell? ⟨gb183, 1, none⟩ = some (.bool false) := (blk_cell BK183.out 1).trans rfl; have hcz83_2 : w81.cell? ⟨gb183, 2, none⟩ = some (.bool false) := (blk_cell BK183.out 2).trans rfl; have hcz83_3 : w81.cell? ⟨gb183, 3, none⟩ = some (u184003) := (blk_cell BK183.out 3).trans rfl; have hfz83_0 := blk_frozen BK183.out 0; have hfz83_1 := blk_frozen BK183.out 1; have hfz83_2 := blk_frozen BK183.out 2; have hfz83_3 := blk_frozen BK183.out 3))
                              go_roundg k2
                              case measure => have := HJ19.out; have := HK2.out; omega
                              case rel => exact ⟨(wrap64 (x7_2 + t186)), (y188), (.slice Ao82 y188.length co82), (by first | rfl | (simp; done) | (simp [*]; done)), H', ⟨by have := HJ19.out; have := HK2.out; omega⟩, ⟨by (with_reducible repeat (first | apply Kd.R_alloc | apply Kd.R_drewN | apply Kd.R_drew)); exact Kd.R_mono (Kd.R_far (p := ⟨gb183, 3, none⟩) (Kd.R_types HO190.out BK183.out (by decide)) (fun _ hk => hk.2) (.slice Ao82 y188.length co82)) (fun _ hk => trivial)⟩, ⟨by (with_reducible repeat (first | refine blk_drewN ?_ _ | refine blk_drew ?_ | refine blk_alloc ?_ _)); refine blk_far ?_ NB178_183.out _; (with_reducible repeat (first | refine blk_drewN ?_ _ | refine blk_drew ?_ | refine blk_alloc ?_ _)); exact BK178.out⟩, ⟨by (with_reducible repeat (first | refine blk_drewN ?_ _ | refine blk_drew ?_ | refine blk_alloc ?_ _)); refine blk_put (cs := #[.string (a0.extract 1 ((wrap64 (1 + t182)) : Int).toNat), .bool false, .bool false, u184003]) ?_ 3 _ rfl; (with_reducible repeat (first | refine blk_drewN ?_ _ | refine blk_drew ?_ | refine blk_alloc ?_ _)); exact BK183.out⟩, ⟨by repeat (first | (with_reducible first | exact HB.out | apply below_alloc | apply pw_below_drewN | apply below_drew1 | refine below_set ?_ GE178.out | refine below_set ?_ GE183.out | refine below_set ?_ GE187.out) | exact HB.out)⟩⟩
                            · rw [if_neg c73] at H
                              exact absurd H (by simp)
                        · rw [if_neg c37] at H
                          exact absurd H (by simp)
                      · rw [if_neg c36] at H
                        exact absurd H (by simp)
                · rw [if_neg c32] at H
                  exact absurd H (by simp)
              · rw [if_neg c31] at H
                exact absurd H (by simp)
          · rw [if_neg c27] at H
            exact absurd H (by simp)

end Go.Proofs.Ytjcfjgcnkbbgmaa.PA

namespace Go.Proofs.Ytjcfjgcnkbbgmaa.Pure
open Go.RowKit Go.Proofs.YtjcfjgcnkbbgmaaW.PrintWords Go.Proofs.YtjcfjgcnkbbgmaaW.PrintMore Go.Proofs.Ytjcfjgcnkbbgmaa.Pl Go.Proofs.Ytjcfjgcnkbbgmaa.PA

theorem begins_eq (l p : List UInt8) : incipitref08_Begins.f (B l) (B p) = some (p.isPrefixOf l) := by
  unfold incipitref08_Begins.f
  rw [B_size, B_size, B_toList, Int.toNat_natCast, B_to, B_toList]
  by_cases h : (l.length : Int) ≥ (p.length : Int)
  · rw [if_pos h, if_pos (by omega), if_pos (by omega)]
    congr 1
    rw [Bool.eq_iff_iff, beq_iff_eq, List.isPrefixOf_iff_prefix, List.prefix_iff_eq_take]
    exact ⟨fun e => e.symm, fun e => e.symm⟩
  · rw [if_neg h]
    congr 1
    symm
    rw [Bool.eq_false_iff]
    intro e
    have := (List.isPrefixOf_iff_prefix.1 e).length_le
    omega
theorem vl_take : ∀ (t u : List UInt8), vl t = some u → t.take u.length = u
  | [], u, h => by cases h
  | x :: t, u, h => by
    rw [vl] at h
    split at h
    · cases h; rfl
    · split at h
      · cases h
      · obtain ⟨v, hv, rfl⟩ := Option.map_eq_some_iff.1 h
        rw [List.length_cons, List.take_succ_cons, vl_take t v hv]
def zA : ByteArray × ByteArray × Int := (⟨#[]⟩, ⟨#[]⟩, 0)
def scR (l : List UInt8) (n i : Nat) : ByteArray × ByteArray × Int := match vl (l.drop i) with
  | none => zA
  | some u => (B ((l.drop 1).take n), B ((l.drop (n + 3)).take (i - (n + 3) + u.length)), ((i + u.length + 1 : Nat) : Int))
set_option maxHeartbeats 400000 in
theorem scan_at (l : List UInt8) (hl : l.length ≤ 1073741824) (n : Nat) (hn : n + 3 ≤ l.length) : ∀ (m i : Nat), m = l.length - i → n + 3 ≤ i → i ≤ l.length → Ev (fun k => incipitref21_attribute.l0 k (B l) (n : Int) (i : Int)) (scR l n i)
  | 0, i, hm, h3, hi => by
    obtain rfl : i = l.length := by omega
    have hsz := B_size l
    refine Ev.step (f := fun _ => some zA) (fun k => by rw [incipitref21_attribute.l0, if_neg (by omega)]; rfl) ?_
    unfold scR
    rw [List.drop_length]
    exact Ev.now _
  | m + 1, i, hm, h3, hi => by
    have hlt : i < l.length := by omega
    have hd := List.drop_eq_getElem_cons hlt
    have hsz := B_size l
    have hbt := B_bt l i hlt
    obtain ⟨x, hx⟩ : ∃ x, l[i] = x := ⟨_, rfl⟩
    rw [hx] at hd hbt
    have ih := scan_at l hl n hn m (i + 1) (by omega) (by omega) (by omega)
    have e60 : ((x.toNat : Int) = 60) ↔ x = 60 := u8_eq x 60 (by decide)
    have e62 : ((x.toNat : Int) = 62) ↔ x = 62 := u8_eq x 62 (by decide)
    have e34 : ((x.toNat : Int) = 34) ↔ x = 34 := u8_eq x 34 (by decide)
    by_cases h60 : x = 60
    · refine Ev.step (f := fun k => incipitref21_attribute.j3 k (B l) (n : Int) (i : Int) true) (fun k => by rw [incipitref21_attribute.l0, if_pos (by omega), if_pos (by omega), hbt, if_pos (e60.2 h60)]) ?_
      refine Ev.step (f := fun _ => some zA) (fun k => by rw [incipitref21_attribute.j3, if_pos rfl]; rfl) ?_
      unfold scR
      rw [hd, vl, if_neg (by rw [h60]; decide), if_pos (.inl h60)]
      exact Ev.now _
    · refine Ev.step (f := fun k => incipitref21_attribute.j3 k (B l) (n : Int) (i : Int) ((x.toNat : Int) == 62)) (fun k => by rw [incipitref21_attribute.l0, if_pos (by omega), if_pos (by omega), hbt, if_neg (fun e => h60 (e60.1 e))]) ?_
      by_cases h62 : x = 62
      · refine Ev.step (f := fun _ => some zA) (fun k => by rw [incipitref21_attribute.j3, if_pos (beq_iff_eq.2 (e62.2 h62))]; rfl) ?_
        unfold scR
        rw [hd, vl, if_neg (by rw [h62]; decide), if_pos (.inr h62)]
        exact Ev.now _
      · have hq : ¬ (((x.toNat : Int) == 62) = true) := by rw [beq_iff_eq]; exact fun e => h62 (e62.1 e)
        by_cases h34 : x = 34
        · refine Ev.step (f := fun _ => some (scR l n i)) (fun k => ?_) (Ev.now _)
          have g8 : ((x.toNat : Int) = 34) := e34.2 h34
          have HQ := Lib.hid hq
          have HX := Lib.hid h34
          clear ih e60 e62 e34 h60 h62 hq h34
          have g1 : (0 : Int) ≤ (i : Int) := by omega
          have g2 : (i : Int) < ((B l).size : Int) := by omega
          have g3 : (1 : Int) ≤ ((1 + n : Nat) : Int) := by omega
          have g4 : ((1 + n : Nat) : Int) ≤ ((B l).size : Int) := by omega
          have g5 : (0 : Int) ≤ ((n + 3 : Nat) : Int) := by omega
          have g6 : ((n + 3 : Nat) : Int) ≤ (i : Int) := by omega
          have g7 : (i : Int) ≤ ((B l).size : Int) := by omega
          have hw1 : wrap64 (1 + (n : Int)) = ((1 + n : Nat) : Int) := by rw [w64 (by omega) (by omega)]; omega
          have hw3 : wrap64 ((n : Int) + 3) = ((n + 3 : Nat) : Int) := by rw [w64 (by omega) (by omega)]; omega
          have hwi : wrap64 ((i : Int) + 1) = ((i + 1 : Nat) : Int) := by rw [w64 (by omega) (by omega)]; omega
          have h34 := HX.out
          rw [incipitref21_attribute.j3, if_neg HQ.out, if_pos g1, if_pos g2, hbt, if_pos g8, hw1, hw3, hwi, if_pos g3, if_pos g4, if_pos g5, if_pos g6, if_pos g7]
          unfold scR
          rw [hd, vl, if_pos h34, Int.toNat_natCast, Int.toNat_natCast, Int.toNat_natCast, B_extract, B_extract]
          show some (B _, B _, _) = some (B _, B _, _)
          rw [show 1 + n - 1 = n by omega]
          rfl
        · refine Ev.step (f := fun k => incipitref21_attribute.l0 k (B l) (n : Int) ((i + 1 : Nat) : Int)) (fun k => ?_) ?_
          · rw [incipitref21_attribute.j3, if_neg hq, if_pos (by omega), if_pos (by omega), hbt, if_neg (fun e => h34 (e34.1 e)), show wrap64 ((i : Int) + 1) = ((i + 1 : Nat) : Int) by rw [w64 (by omega) (by omega)]; omega]
          · have : scR l n i = scR l n (i + 1) := by
              unfold scR
              rw [hd, vl, if_neg h34, if_neg (by rintro (h | h); exact h60 h; exact h62 h)]
              cases vl (List.drop (i + 1) l) with
              | none => rfl
              | some u =>
                show (B _, B _, _) = (B _, B _, _)
                rw [List.length_cons, show i - (n + 3) + (u.length + 1) = i + 1 - (n + 3) + u.length by omega, show i + (u.length + 1) + 1 = i + 1 + u.length + 1 by omega]
            rw [this]
            exact ih
def rattR (l : List UInt8) : ByteArray × ByteArray × Int := match att l with
  | none => zA
  | some (a, c) => (a.f0, a.f1, (c : Int))
theorem rattr_ev (l : List UInt8) (hl : l.length ≤ 1073741824) : Ev (fun k => incipitref21_attribute.f k (B l)) (rattR l) := by
  have hsz := B_size l
  have z1 : Ev (fun k => incipitref21_attribute.j0 k (B l) true) zA := Ev.step (f := fun _ => some zA) (fun k => by rw [incipitref21_attribute.j0, if_pos rfl]; rfl) (Ev.now _)
  cases l with
  | nil =>
    refine Ev.congr (f := fun k => incipitref21_attribute.j0 k (B []) true) (fun k => by unfold incipitref21_attribute.f; rw [if_pos (B_toList [])]) z1
  | cons x r =>
    have hbt := B_bt (x :: r) 0 (by simp)
    rw [List.getElem_cons_zero] at hbt
    have e32 : ((x.toNat : Int) = 32) ↔ x = 32 := u8_eq x 32 (by decide)
    refine Ev.congr (f := fun k => incipitref21_attribute.j0 k (B (x :: r)) ((x.toNat : Int) != 32)) (fun k => by unfold incipitref21_attribute.f; rw [if_neg (by rw [B_toList]; simp), if_pos (by rw [hsz, List.length_cons]; omega), show bt (B (x :: r)) 0 = (x.toNat : Int) from hbt]) ?_
    by_cases hx : x = 32
    · have hq : ((x.toNat : Int) != 32) = false := by rw [bne_eq_false_iff_eq]; exact e32.2 hx
      rw [hq]
      have hrn := nm_le true r 0
      rw [List.length_cons] at hsz hl
      have he1 : (B (x :: r)).extract 1 (B (x :: r)).size = B r := by rw [B_from _ 1 _ (B_size _)]; rfl
      refine Ev.step (f := fun k => (incipitref21_name.f k (B r) true).bind fun t176 => (if t176 = 0 then (incipitref21_attribute.j1 k (B (x :: r)) t176 true) else (if 0 ≤ (wrap64 (1 + t176)) then (if (wrap64 (1 + t176)) ≤ ((B (x :: r)).size : Int) then ((incipitref08_Begins.f ((B (x :: r)).extract ((wrap64 (1 + t176)) : Int).toNat (B (x :: r)).size) (⟨#[61, 34]⟩ : ByteArray)).bind fun t177 => (incipitref21_attribute.j1 k (B (x :: r)) t176 (!t177))) else (none)) else (none)))) (fun k => by rw [incipitref21_attribute.j0, if_neg (by decide), if_pos (by omega), he1]) ?_
      refine Ev.bind (rname_ev r (by omega) true) ?_
      obtain ⟨n, hn⟩ : ∃ n, nm true 0 r = n := ⟨_, rfl⟩
      rw [hn] at hrn ⊢
      have zj : ∀ n : Int, Ev (fun k => incipitref21_attribute.j1 k (B (x :: r)) n true) zA := fun n => Ev.step (f := fun _ => some zA) (fun k => by rw [incipitref21_attribute.j1, if_pos rfl]; rfl) (Ev.now _)
      unfold rattR
      rw [att, if_pos hx, hn]
      by_cases h0 : n = 0
      · rw [if_pos h0]
        refine Ev.congr (f := fun k => incipitref21_attribute.j1 k (B (x :: r)) (n : Int) true) (fun k => by rw [if_pos (by omega)]) (zj _)
      · rw [if_neg h0]
        have hw1 : wrap64 (1 + (n : Int)) = ((1 + n : Nat) : Int) := by rw [w64 (by omega) (by omega)]; omega
        have hb : incipitref08_Begins.f ((B (x :: r)).extract (((1 + n : Nat) : Int)).toNat (B (x :: r)).size) (⟨#[61, 34]⟩ : ByteArray) = some (([61, 34] : List UInt8).isPrefixOf (r.drop n)) := by
          rw [Int.toNat_natCast, B_from _ _ _ (B_size _), Nat.add_comm 1 n, List.drop_succ_cons]
          exact begins_eq _ [61, 34]
        refine Ev.congr (f := fun k => incipitref21_attribute.j1 k (B (x :: r)) (n : Int) (!([61, 34] : List UInt8).isPrefixOf (r.drop n))) (fun k => by rw [if_neg (by omega), hw1, if_pos (by omega), if_pos (by omega), hb, Option.bind_some]) ?_
        by_cases hp : ([61, 34] : List UInt8).isPrefixOf (r.drop n) = true
        · rw [hp, if_pos rfl]
          have h2 : 2 ≤ (r.drop n).length := (List.isPrefixOf_iff_prefix.1 hp).length_le
          rw [List.length_drop] at h2
          refine Ev.step (f := fun k => incipitref21_attribute.l0 k (B (x :: r)) (n : Int) ((n + 3 : Nat) : Int)) (fun k => by rw [incipitref21_attribute.j1, if_neg (by decide), show wrap64 ((n : Int) + 3) = ((n + 3 : Nat) : Int) by rw [w64 (by omega) (by omega)]; omega]) ?_
          have hs := scan_at (x :: r) (by rw [List.length_cons]; omega) n (by rw [List.length_cons]; omega) _ (n + 3) rfl (Nat.le_refl _) (by rw [List.length_cons]; omega)
          have : scR (x :: r) n (n + 3) = (match Option.map (fun u => ((⟨B (r.take n), B u⟩ : S45), n + u.length + 4)) (vl (r.drop (n + 2))) with | none => zA | some (a, c) => (a.f0, a.f1, (c : Int))) := by
            unfold scR
            rw [List.drop_succ_cons]
            cases hv : vl (r.drop (n + 2)) with
            | none => rfl
            | some u =>
              have ht := vl_take _ _ hv
              show (B _, B _, _) = (B _, B _, _)
              rw [Nat.sub_self, Nat.zero_add, ht, show n + 3 + u.length + 1 = n + u.length + 4 by omega]
              rfl
          rw [← this]
          exact hs
        · rw [Bool.eq_false_iff.2 hp, if_neg (by decide)]
          exact zj _
    · have hq : ((x.toNat : Int) != 32) = true := by rw [bne_iff_ne]; exact fun e => hx (e32.1 e)
      rw [hq]
      unfold rattR
      rw [att, if_neg hx]
      exact z1
/-- The attributes a text begins with, and what is left. -/
def ats : Nat → List UInt8 → List S45 × List UInt8
  | 0, l => ([], l)
  | f + 1, l => match att l with
    | none => ([], l)
    | some (a, c) => (a :: (ats f (l.drop c)).1, (ats f (l.drop c)).2)
theorem ats_none (f : Nat) (l : List UInt8) (h : att l = none) : ats f l = ([], l) := by
  cases f with
  | zero => rfl
  | succ f => rw [ats, h]
theorem ats_some (f : Nat) (l : List UInt8) (a) (c : Nat) (h : att l = some (a, c)) : ats (f + 1) l = (a :: (ats f (l.drop c)).1, (ats f (l.drop c)).2) := by rw [ats, h]
theorem ats_len : ∀ (f : Nat) (l : List UInt8), (ats f l).1.length + (ats f l).2.length ≤ l.length
  | 0, l => by simp [ats]
  | f + 1, l => by
    cases h : att l with
    | none => rw [ats_none _ _ h]; simp
    | some q =>
      obtain ⟨a, c⟩ := q
      rw [ats_some f l a c h]
      have h1 := att_len l a c h
      have h2 := ats_len f (l.drop c)
      rw [List.length_drop] at h2
      simp only [List.length_cons]
      omega
def endB (nz name : ByteArray) (e v : Bool) (aa : List S45) (r : List UInt8) : ByteArray × Bool × Bool × List S45 × ByteArray × Bool :=
  if ([32, 47, 62] : List UInt8).isPrefixOf r = true then (name, e, true, aa, B (r.drop 3), (nz.toList != ([] : List UInt8)))
  else if ([62] : List UInt8).isPrefixOf r = true then (name, e, v, aa, B (r.drop 1), (nz.toList != ([] : List UInt8))) else (name, e, v, aa, B r, false)
theorem trimp {l p : List UInt8} (h : p.isPrefixOf l = true) : Lib.trimPrefix l p = l.drop p.length := by unfold Lib.trimPrefix Lib.hasPrefix; rw [if_pos h]
theorem trimn {l p : List UInt8} (h : ¬ p.isPrefixOf l = true) : Lib.trimPrefix l p = l := by unfold Lib.trimPrefix Lib.hasPrefix; rw [if_neg h]
theorem begin_at (nz name : ByteArray) (e v : Bool) : ∀ (f : Nat) (l : List UInt8) (acc : List S45), l.length ≤ f → l.length + acc.length ≤ 1073741824 → Ev (fun k => tags_beginning.l0 k nz (B l) name e v acc) (endB nz name e v (acc ++ (ats f l).1) (ats f l).2) := by
  intro f
  induction f with
  | zero =>
    intro l acc h1 h2
    obtain rfl : l = [] := List.length_eq_zero_iff.1 (by omega)
    refine Ev.step (f := fun k => (tags_attribute.f k (B [])).bind fun bt120 => (if bt120.2.2.2 = true then (if acc.length < 4398046511104 then (tags_beginning.l0 k nz bt120.2.2.1 name e v (acc ++ [(⟨bt120.1, bt120.2.1⟩ : S45)])) else (none)) else ((strings_CutPrefix.f (B []) (⟨#[32, 47, 62]⟩ : ByteArray)).bind fun bt128 => (if bt128.2 = true then (some (name, e, true, acc, bt128.1, (nz.toList != ([] : List UInt8)))) else ((strings_CutPrefix.f (B []) (⟨#[62]⟩ : ByteArray)).bind fun bt130 => (if bt130.2 = true then (some (name, e, v, acc, bt130.1, (nz.toList != ([] : List UInt8)))) else (some (name, e, v, acc, bt130.1, false)))))))) (fun k => by rw [tags_beginning.l0]) ?_
    refine Ev.bind (attr_ev [] (by simp)) (Ev.const ?_)
    simp [attR, att, ats, endB, List.isPrefixOf]
    rfl
  | succ f ih =>
    intro l acc h1 h2
    refine Ev.step (f := fun k => (tags_attribute.f k (B l)).bind fun bt120 => (if bt120.2.2.2 = true then (if acc.length < 4398046511104 then (tags_beginning.l0 k nz bt120.2.2.1 name e v (acc ++ [(⟨bt120.1, bt120.2.1⟩ : S45)])) else (none)) else ((strings_CutPrefix.f (B l) (⟨#[32, 47, 62]⟩ : ByteArray)).bind fun bt128 => (if bt128.2 = true then (some (name, e, true, acc, bt128.1, (nz.toList != ([] : List UInt8)))) else ((strings_CutPrefix.f (B l) (⟨#[62]⟩ : ByteArray)).bind fun bt130 => (if bt130.2 = true then (some (name, e, v, acc, bt130.1, (nz.toList != ([] : List UInt8)))) else (some (name, e, v, acc, bt130.1, false)))))))) (fun k => by rw [tags_beginning.l0]) ?_
    refine Ev.bind (attr_ev l (by omega)) ?_
    cases h : att l with
    | none =>
      rw [show attR l = (⟨#[]⟩, ⟨#[]⟩, B l, false) by unfold attR; rw [h], ats_none _ _ h, List.append_nil]
      refine Ev.congr (f := fun _ => ((strings_CutPrefix.f (B l) (⟨#[32, 47, 62]⟩ : ByteArray)).bind fun bt128 => (if bt128.2 = true then (some (name, e, true, acc, bt128.1, (nz.toList != ([] : List UInt8)))) else ((strings_CutPrefix.f (B l) (⟨#[62]⟩ : ByteArray)).bind fun bt130 => (if bt130.2 = true then (some (name, e, v, acc, bt130.1, (nz.toList != ([] : List UInt8)))) else (some (name, e, v, acc, bt130.1, false))))))) (fun k => rfl) (Ev.const ?_)
      have c1 : strings_CutPrefix.f (B l) (⟨#[32, 47, 62]⟩ : ByteArray) = some (B (Lib.trimPrefix l [32, 47, 62]), ([32, 47, 62] : List UInt8).isPrefixOf l) := cutp l [32, 47, 62]
      have c2 : strings_CutPrefix.f (B l) (⟨#[62]⟩ : ByteArray) = some (B (Lib.trimPrefix l [62]), ([62] : List UInt8).isPrefixOf l) := cutp l [62]
      rw [c1, Option.bind_some]
      unfold endB
      by_cases p1 : ([32, 47, 62] : List UInt8).isPrefixOf l = true
      · rw [if_pos p1, if_pos p1, trimp p1]
        rfl
      · rw [if_neg p1, if_neg p1, c2, Option.bind_some]
        by_cases p2 : ([62] : List UInt8).isPrefixOf l = true
        · rw [if_pos p2, if_pos p2, trimp p2]
          rfl
        · rw [if_neg p2, if_neg p2, trimn p2]
    | some q =>
      obtain ⟨a, c⟩ := q
      have h3 := att_len l a c h
      rw [ats_some f l a c h]
      refine Ev.congr (f := fun k => tags_beginning.l0 k nz (B (l.drop c)) name e v (acc ++ [a])) (fun k => by rw [show attR l = (a.f0, a.f1, B (l.drop c), true) by unfold attR; rw [h], if_pos rfl, if_pos (by omega)]) ?_
      have := ih (l.drop c) (acc ++ [a]) (by rw [List.length_drop]; omega) (by rw [List.length_drop, List.length_append, List.length_singleton]; omega)
      rw [List.append_assoc, List.singleton_append] at this
      exact this
theorem begin_ev (t : List UInt8) (ht : t.length ≤ 1073741824) : Ev (fun k => tags_beginning.f k (B t)) (endB (B (t.take (nm false 0 t))) (B (t.take (nm false 0 t))) false false (ats t.length (t.drop (nm false 0 t))).1 (ats t.length (t.drop (nm false 0 t))).2) := by
  unfold tags_beginning.f
  refine Ev.bind (named_ev t (by omega) false) ?_
  have := begin_at (B (t.take (nm false 0 t))) (B (t.take (nm false 0 t))) false false t.length (t.drop (nm false 0 t)) [] (by rw [List.length_drop]; omega) (by rw [List.length_drop]; simp; omega)
  rw [List.nil_append] at this
  exact this
def zT : ByteArray × Bool × Bool × List S45 × Int := (⟨#[]⟩, false, false, [], 0)
/-- The tag a text begins with, and how long it is; 0: there is none. -/
def rdE (u : List UInt8) : ByteArray × Bool × Bool × List S45 × Int :=
  if nm false 0 u = 0 then zT else if ([62] : List UInt8).isPrefixOf (u.drop (nm false 0 u)) = true then (B (u.take (nm false 0 u)), true, false, [], ((nm false 0 u + 3 : Nat) : Int)) else zT
def rdB (t : List UInt8) : ByteArray × Bool × Bool × List S45 × Int :=
  if nm false 0 t = 0 then zT
  else if ([62] : List UInt8).isPrefixOf (ats t.length (t.drop (nm false 0 t))).2 = true then (B (t.take (nm false 0 t)), false, false, (ats t.length (t.drop (nm false 0 t))).1, ((t.length + 1 - (ats t.length (t.drop (nm false 0 t))).2.length + 1 : Nat) : Int))
  else if ([32, 47, 62] : List UInt8).isPrefixOf (ats t.length (t.drop (nm false 0 t))).2 = true then (B (t.take (nm false 0 t)), false, true, (ats t.length (t.drop (nm false 0 t))).1, ((t.length + 1 - (ats t.length (t.drop (nm false 0 t))).2.length + 3 : Nat) : Int)) else zT
def rdT : List UInt8 → ByteArray × Bool × Bool × List S45 × Int
  | [] => zT
  | x :: t => if x = 60 then (if ([47] : List UInt8).isPrefixOf t = true then rdE (t.drop 1) else rdB t) else zT
theorem not_both (r : List UInt8) (h : ([62] : List UInt8).isPrefixOf r = true) : ¬ ([32, 47, 62] : List UInt8).isPrefixOf r = true := by
  cases r with
  | nil => simp [List.isPrefixOf] at h
  | cons x r =>
    simp only [List.isPrefixOf, Bool.and_true, beq_iff_eq] at h
    subst h
    simp [List.isPrefixOf]
theorem read_ev (l : List UInt8) (hl : l.length ≤ 1073741824) : Ev (fun k => tags_Read.f k (B l)) (rdT l) := by
  cases l with
  | nil =>
    refine Ev.congr (f := fun _ => some zT) (fun k => ?_) (Ev.now _)
    unfold tags_Read.f
    rw [show strings_CutPrefix.f (B []) (⟨#[60]⟩ : ByteArray) = some (B [], false) from cutp [] [60], Option.bind_some, if_neg (by decide)]
    rfl
  | cons x t =>
    rw [List.length_cons] at hl
    have c1 : strings_CutPrefix.f (B (x :: t)) (⟨#[60]⟩ : ByteArray) = some (B (Lib.trimPrefix (x :: t) [60]), ([60] : List UInt8).isPrefixOf (x :: t)) := cutp (x :: t) [60]
    by_cases hx : x = 60
    · subst hx
      have p0 : ([60] : List UInt8).isPrefixOf (60 :: t) = true := by simp [List.isPrefixOf]
      rw [trimp p0, p0, show ((60 : UInt8) :: t).drop ([60] : List UInt8).length = t from rfl] at c1
      have c2 : strings_CutPrefix.f (B t) (⟨#[47]⟩ : ByteArray) = some (B (Lib.trimPrefix t [47]), ([47] : List UInt8).isPrefixOf t) := cutp t [47]
      have hsz : ((B (60 :: t)).size : Int) = (t.length : Int) + 1 := by rw [B_size, List.length_cons]; omega
      simp only [tags_Read.f, c1, Option.bind_some, if_true]
      refine Ev.bind (begin_ev t (by omega)) ?_
      simp only [c2, Option.bind_some]
      rw [rdT, if_pos rfl]
      by_cases p1 : ([47] : List UInt8).isPrefixOf t = true
      · simp only [p1, if_true]
        rw [trimp p1, show ([47] : List UInt8).length = 1 from rfl]
        have hu : (t.drop 1).length + 1 ≤ t.length := by
          have := (List.isPrefixOf_iff_prefix.1 p1).length_le
          rw [List.length_drop]
          simp at this
          omega
        obtain ⟨u, hu2⟩ : ∃ u, t.drop 1 = u := ⟨_, rfl⟩
        rw [hu2] at hu ⊢
        have hul : u.length + 1 = t.length := by
          have := (List.isPrefixOf_iff_prefix.1 p1).length_le
          rw [← hu2, List.length_drop]
          simp at this
          omega
        have hnu := nm_le false u 0
        have c3 : strings_CutPrefix.f (B (u.drop (nm false 0 u))) (⟨#[62]⟩ : ByteArray) = some (B (Lib.trimPrefix (u.drop (nm false 0 u)) [62]), ([62] : List UInt8).isPrefixOf (u.drop (nm false 0 u))) := cutp _ [62]
        have he : Ev (fun k => tags_ending.f k (B u)) (if ([62] : List UInt8).isPrefixOf (u.drop (nm false 0 u)) = true then (B (u.take (nm false 0 u)), true, false, [], B ((u.drop (nm false 0 u)).drop 1), ((B (u.take (nm false 0 u))).toList != ([] : List UInt8))) else (B (u.take (nm false 0 u)), true, false, [], B (u.drop (nm false 0 u)), false)) := by
          unfold tags_ending.f
          refine Ev.bind (named_ev u (by omega) false) (Ev.const ?_)
          dsimp only
          rw [c3, Option.bind_some]
          by_cases p2 : ([62] : List UInt8).isPrefixOf (u.drop (nm false 0 u)) = true
          · rw [if_pos p2, if_pos p2, trimp p2]
            rfl
          · rw [if_neg p2, if_neg p2, trimn p2]
        refine Ev.bind he (Ev.const ?_)
        unfold rdE
        by_cases p2 : ([62] : List UInt8).isPrefixOf (u.drop (nm false 0 u)) = true
        · have h2 := (List.isPrefixOf_iff_prefix.1 p2).length_le
          rw [List.length_drop] at h2
          simp only [List.length_singleton] at h2
          rw [if_pos p2, if_pos p2]
          show (if ((B (u.take (nm false 0 u))).toList != ([] : List UInt8)) = true then some (B (u.take (nm false 0 u)), true, false, ([] : List S45), wrap64 (((B (60 :: t)).size : Int) - ((B ((u.drop (nm false 0 u)).drop 1)).size : Int))) else some zT) = _
          rw [B_toList]
          by_cases h0 : nm false 0 u = 0
          · rw [if_pos h0, h0, List.take_zero, if_neg (by decide)]
          · rw [if_neg h0, if_pos (by rw [bne_iff_ne]; exact fun e => h0 (by have h1 := congrArg List.length e; rw [List.length_take, List.length_nil] at h1; omega))]
            rw [hsz, B_size, List.drop_drop, List.length_drop, w64 (by omega) (by omega), show (t.length : Int) + 1 - ((u.length - (nm false 0 u + 1) : Nat) : Int) = ((nm false 0 u + 3 : Nat) : Int) by omega]
        · rw [if_neg p2, if_neg p2]
          exact congrArg some (ite_self (c := nm false 0 u = 0) zT).symm
      · simp only [Bool.eq_false_iff.2 p1]
        refine Ev.const ?_
        have hn := nm_le false t 0
        obtain ⟨q, hq⟩ : ∃ q, ats t.length (t.drop (nm false 0 t)) = q := ⟨_, rfl⟩
        have hql := ats_len t.length (t.drop (nm false 0 t))
        rw [hq, List.length_drop] at hql
        have hb : (List.take (nm false 0 t) t != ([] : List UInt8)) = !decide (nm false 0 t = 0) := by
          rw [Bool.eq_iff_iff]
          simp only [bne_iff_ne, ne_eq, Bool.not_eq_true', decide_eq_false_iff_not]
          refine not_congr ⟨fun e => ?_, fun e => by rw [e]; rfl⟩
          have h1 := congrArg List.length e
          rw [List.length_take, List.length_nil] at h1
          omega
        have key : ∀ (v : Bool) (m : Nat), m ≤ q.2.length → (if ((B (t.take (nm false 0 t))).toList != ([] : List UInt8)) = true then some (B (t.take (nm false 0 t)), false, v, q.1, wrap64 (((B (60 :: t)).size : Int) - ((B (q.2.drop m)).size : Int))) else some zT) =
            some (if nm false 0 t = 0 then zT else (B (t.take (nm false 0 t)), false, v, q.1, ((t.length + 1 - q.2.length + m : Nat) : Int))) := by
          intro v m hm
          rw [B_toList, hb, hsz, B_size, List.length_drop, w64 (by omega) (by omega)]
          by_cases h0 : nm false 0 t = 0
          · rw [decide_eq_true h0, if_neg (by decide), if_pos h0]
          · rw [decide_eq_false h0, if_pos (by decide), if_neg h0, show (t.length : Int) + 1 - ((q.2.length - m : Nat) : Int) = ((t.length + 1 - q.2.length + m : Nat) : Int) by omega]
        unfold rdB
        rw [hq]
        by_cases p3 : ([32, 47, 62] : List UInt8).isPrefixOf q.2 = true
        · have p2 : ¬ ([62] : List UInt8).isPrefixOf q.2 = true := fun h => not_both _ h p3
          have h3 := (List.isPrefixOf_iff_prefix.1 p3).length_le
          rw [if_neg p2, if_pos p3]
          have e1 : endB (B (t.take (nm false 0 t))) (B (t.take (nm false 0 t))) false false q.1 q.2 = (B (t.take (nm false 0 t)), false, true, q.1, B (q.2.drop 3), ((B (t.take (nm false 0 t))).toList != ([] : List UInt8))) := by unfold endB; rw [if_pos p3]
          rw [e1]
          exact key true 3 h3
        · by_cases p2 : ([62] : List UInt8).isPrefixOf q.2 = true
          · have h3 := (List.isPrefixOf_iff_prefix.1 p2).length_le
            rw [if_pos p2]
            have e1 : endB (B (t.take (nm false 0 t))) (B (t.take (nm false 0 t))) false false q.1 q.2 = (B (t.take (nm false 0 t)), false, false, q.1, B (q.2.drop 1), ((B (t.take (nm false 0 t))).toList != ([] : List UInt8))) := by unfold endB; rw [if_neg p3, if_pos p2]
            rw [e1]
            exact key false 1 h3
          · have e1 : endB (B (t.take (nm false 0 t))) (B (t.take (nm false 0 t))) false false q.1 q.2 = (B (t.take (nm false 0 t)), false, false, q.1, B q.2, false) := by unfold endB; rw [if_neg p3, if_neg p2]
            rw [e1, if_neg p2, if_neg p3]
            exact congrArg some (ite_self (c := nm false 0 t = 0) zT).symm
    · have p0 : ¬ ([60] : List UInt8).isPrefixOf (x :: t) = true := by simp [List.isPrefixOf] <;> exact fun e => hx e.symm
      refine Ev.congr (f := fun _ => some zT) (fun k => ?_) ?_
      · unfold tags_Read.f
        rw [c1, Option.bind_some, if_neg p0]
        rfl
      · rw [rdT, if_neg hx]
        exact Ev.now _
end Go.Proofs.Ytjcfjgcnkbbgmaa.Pure

namespace Go.Proofs.Ytjcfjgcnkbbgmaa.Pure
open Go.RowKit Go.Proofs.YtjcfjgcnkbbgmaaW.PrintWords Go.Proofs.YtjcfjgcnkbbgmaaW.PrintMore Go.Proofs.Ytjcfjgcnkbbgmaa.Pl Go.Proofs.Ytjcfjgcnkbbgmaa.PA

theorem begins_at (l : List UInt8) (i : Nat) (p : List UInt8) : incipitref08_Begins.f ((B l).extract i (B l).size) (B p) = some (p.isPrefixOf (l.drop i)) := by
  rw [B_from _ _ _ (B_size l)]
  exact begins_eq _ p
def endR (name : ByteArray) (e v : Bool) (aa : List S45) (r : List UInt8) (N : Nat) : ByteArray × Bool × Bool × List S45 × Int :=
  if ([62] : List UInt8).isPrefixOf r = true then (name, e, v, aa, ((N - r.length + 1 : Nat) : Int)) else if ([32, 47, 62] : List UInt8).isPrefixOf r = true then (name, e, true, aa, ((N - r.length + 3 : Nat) : Int)) else zT
theorem rread_body (l : List UInt8) (hl : l.length ≤ 1073741824) (name : ByteArray) (e v : Bool) (acc : List S45) (hacc : acc.length < 4398046511104) (i : Nat) (hi : i ≤ l.length) (k : Nat) :
    incipitref21_Read.l0 (k + 1) (B l) (i : Int) name e v acc = (incipitref21_attribute.f k (B (l.drop i))).bind fun bt => (if bt.2.2 = 0 then some (endR name e v acc (l.drop i) l.length) else incipitref21_Read.l0 k (B l) (wrap64 ((i : Int) + bt.2.2)) name e v (acc ++ [(⟨bt.1, bt.2.1⟩ : S45)])) := by
  have hsz := B_size l
  have b1 : incipitref08_Begins.f ((B l).extract ((i : Int)).toNat (B l).size) (⟨#[62]⟩ : ByteArray) = some (([62] : List UInt8).isPrefixOf (l.drop i)) := by rw [Int.toNat_natCast]; exact begins_at l i [62]
  have b2 : incipitref08_Begins.f ((B l).extract ((i : Int)).toNat (B l).size) (⟨#[32, 47, 62]⟩ : ByteArray) = some (([32, 47, 62] : List UInt8).isPrefixOf (l.drop i)) := by rw [Int.toNat_natCast]; exact begins_at l i [32, 47, 62]
  have he : (B l).extract ((i : Int)).toNat (B l).size = B (l.drop i) := by rw [Int.toNat_natCast, B_from _ _ _ hsz]
  have w1 : wrap64 ((i : Int) + 1) = ((l.length - (l.drop i).length + 1 : Nat) : Int) := by rw [w64 (by omega) (by omega), List.length_drop]; omega
  have w3 : wrap64 ((i : Int) + 3) = ((l.length - (l.drop i).length + 3 : Nat) : Int) := by rw [w64 (by omega) (by omega), List.length_drop]; omega
  have g1 : (0 : Int) ≤ (i : Int) := Int.natCast_nonneg i
  have g2 : (i : Int) ≤ ((B l).size : Int) := by rw [hsz]; exact Int.ofNat_le.2 hi
  rw [incipitref21_Read.l0, if_pos g1, if_pos g2, b1, b2, he, w1, w3]
  simp only [Option.bind_some]
  congr 1
  funext bt
  by_cases h0 : bt.2.2 = 0
  · rw [if_pos h0, if_pos h0]
    unfold endR
    by_cases p1 : ([62] : List UInt8).isPrefixOf (l.drop i) = true
    · rw [if_pos p1, if_pos p1]
    · rw [if_neg p1, if_neg p1]
      by_cases p2 : ([32, 47, 62] : List UInt8).isPrefixOf (l.drop i) = true
      · rw [if_pos p2, if_pos p2]
      · rw [if_neg p2, if_neg p2]
        rfl
  · rw [if_neg h0, if_neg h0, if_pos hacc]
theorem rread_at (l : List UInt8) (hl : l.length ≤ 1073741824) (name : ByteArray) (e v : Bool) : ∀ (f i : Nat) (acc : List S45), l.length ≤ f + i → i ≤ l.length → acc.length ≤ i →
    Ev (fun k => incipitref21_Read.l0 k (B l) (i : Int) name e v acc) (endR name e v (acc ++ (ats f (l.drop i)).1) (ats f (l.drop i)).2 l.length) := by
  intro f
  induction f with
  | zero =>
    intro i acc h1 h2 h3
    obtain rfl : i = l.length := by omega
    refine Ev.step (fun k => rread_body l hl name e v acc (by omega) _ (Nat.le_refl _) k) ?_
    rw [List.drop_length]
    refine Ev.bind (rattr_ev [] (by simp)) (Ev.congr (f := fun _ => some (endR name e v acc [] l.length)) (fun k => rfl) ?_)
    rw [show (ats 0 ([] : List UInt8)) = ([], []) from rfl, List.append_nil]
    exact Ev.now _
  | succ f ih =>
    intro i acc h1 h2 h3
    refine Ev.step (fun k => rread_body l hl name e v acc (by omega) _ h2 k) ?_
    refine Ev.bind (rattr_ev (l.drop i) (by rw [List.length_drop]; omega)) ?_
    cases h : att (l.drop i) with
    | none =>
      rw [ats_none _ _ h, List.append_nil]
      refine Ev.congr (f := fun _ => some (endR name e v acc (l.drop i) l.length)) (fun k => ?_) (Ev.now _)
      rw [show rattR (l.drop i) = zA by unfold rattR; rw [h]]
      rfl
    | some q =>
      obtain ⟨a, c⟩ := q
      have h4 := att_len _ a c h
      rw [List.length_drop] at h4
      rw [ats_some f _ a c h]
      have := ih (i + c) (acc ++ [a]) (by omega) (by omega) (by rw [List.length_append, List.length_singleton]; omega)
      rw [List.append_assoc, List.singleton_append, ← List.drop_drop] at this
      refine Ev.congr (fun k => ?_) this
      rw [show rattR (l.drop i) = (a.f0, a.f1, (c : Int)) by unfold rattR; rw [h]]
      dsimp only
      rw [if_neg (by omega), w64 (x := (i : Int) + (c : Int)) (by omega) (by omega)]
      rfl
theorem rread_ev (l : List UInt8) (hl : l.length ≤ 1073741823) : Ev (fun k => incipitref21_Read.f k (B l)) (rdT l) := by
  have hb : incipitref08_Begins.f (B l) (⟨#[60, 47]⟩ : ByteArray) = some (([60, 47] : List UInt8).isPrefixOf l) := begins_eq l [60, 47]
  have zj : Ev (fun k => incipitref21_Read.j0 k (B l) true) zT := Ev.step (f := fun _ => some zT) (fun k => by rw [incipitref21_Read.j0, if_pos rfl]; rfl) (Ev.now _)
  simp only [incipitref21_Read.f, hb, Option.bind_some]
  cases l with
  | nil => exact Ev.congr (fun k => by rw [if_neg (show ¬ (([60, 47] : List UInt8).isPrefixOf [] = true) by decide), if_pos (B_toList [])]) zj
  | cons x t =>
    rw [List.length_cons] at hl
    have hsz : ((B (x :: t)).size : Int) = (t.length : Int) + 1 := by rw [B_size, List.length_cons]; omega
    have hbt := B_bt (x :: t) 0 (by simp)
    rw [List.getElem_cons_zero] at hbt
    have e60 : ((x.toNat : Int) = 60) ↔ x = 60 := u8_eq x 60 (by decide)
    by_cases hx : x = 60
    · rw [rdT, if_pos hx]
      by_cases p1 : ([47] : List UInt8).isPrefixOf t = true
      · have hp : ([60, 47] : List UInt8).isPrefixOf (x :: t) = true := by subst hx; simpa [List.isPrefixOf] using p1
        rw [if_pos p1]
        obtain ⟨u, rfl⟩ : ∃ u, t = 47 :: u := by
          obtain ⟨u, hu⟩ := List.isPrefixOf_iff_prefix.1 p1
          exact ⟨u, hu.symm⟩
        rw [List.length_cons] at hl hsz
        have hnu := nm_le false u 0
        have he : (B (x :: 47 :: u)).extract 2 (B (x :: 47 :: u)).size = B u := by rw [B_from _ 2 _ (B_size _)]; rfl
        simp only [hp, if_true, he, hsz]
        refine Ev.congr (f := fun k => (incipitref21_name.f k (B u) false).bind fun t180 => (if t180 = 0 then (some zT) else (if 0 ≤ (wrap64 (2 + t180)) then (if (wrap64 (2 + t180)) ≤ ((B (x :: 47 :: u)).size : Int) then ((incipitref08_Begins.f ((B (x :: 47 :: u)).extract ((wrap64 (2 + t180)) : Int).toNat (B (x :: 47 :: u)).size) (⟨#[62]⟩ : ByteArray)).bind fun t181 => (if t181 = true then (if 2 ≤ (wrap64 (2 + t180)) then (some ((B (x :: 47 :: u)).extract 2 ((wrap64 (2 + t180)) : Int).toNat, true, false, ([] : List S45), wrap64 (t180 + 3))) else (none)) else (some zT))) else (none)) else (none)))) (fun k => by rw [if_pos (by omega)]; rfl) ?_
        refine Ev.bind (rname_ev u (by omega) false) ?_
        rw [List.drop_one, List.tail_cons]
        unfold rdE
        by_cases h0 : nm false 0 u = 0
        · rw [if_pos h0]
          exact Ev.congr (f := fun _ => some zT) (fun k => by rw [if_pos (by omega)]) (Ev.now _)
        · have hw2 : wrap64 (2 + ((nm false 0 u : Nat) : Int)) = ((2 + nm false 0 u : Nat) : Int) := by rw [w64 (by omega) (by omega)]; omega
          have hw3 : wrap64 (((nm false 0 u : Nat) : Int) + 3) = ((nm false 0 u + 3 : Nat) : Int) := by rw [w64 (by omega) (by omega)]; omega
          have b1 : incipitref08_Begins.f ((B (x :: 47 :: u)).extract (((2 + nm false 0 u : Nat) : Int)).toNat (B (x :: 47 :: u)).size) (⟨#[62]⟩ : ByteArray) = some (([62] : List UInt8).isPrefixOf (u.drop (nm false 0 u))) := by
            rw [Int.toNat_natCast]
            have := begins_at (x :: 47 :: u) (2 + nm false 0 u) [62]
            rw [Nat.add_comm 2, List.drop_succ_cons, List.drop_succ_cons] at this
            rw [Nat.add_comm 2]
            exact this
          refine Ev.const ?_
          have g1 : (0 : Int) ≤ ((2 + nm false 0 u : Nat) : Int) := Int.natCast_nonneg _
          have g2 : ((2 + nm false 0 u : Nat) : Int) ≤ ((B (x :: 47 :: u)).size : Int) := by rw [hsz]; omega
          have g3 : (2 : Int) ≤ ((2 + nm false 0 u : Nat) : Int) := by omega
          have g0 : ¬ (((nm false 0 u : Nat) : Int) = 0) := by omega
          rw [if_neg g0, hw2, hw3, if_pos g1, if_pos g2, b1, Option.bind_some, if_pos g3, if_neg h0]
          by_cases p2 : ([62] : List UInt8).isPrefixOf (u.drop (nm false 0 u)) = true
          · rw [if_pos p2, if_pos p2, Int.toNat_natCast, B_extract, show 2 + nm false 0 u - 2 = nm false 0 u by omega]
            rfl
          · rw [if_neg p2, if_neg p2]
      · have hp : ([60, 47] : List UInt8).isPrefixOf (x :: t) = false := by
          rw [Bool.eq_false_iff]
          intro h
          apply p1
          subst hx
          simpa [List.isPrefixOf] using h
        rw [if_neg p1]
        simp only [hp]
        have hn := nm_le false t 0
        have he : (B (x :: t)).extract 1 (B (x :: t)).size = B t := by rw [B_from _ 1 _ (B_size _)]; rfl
        refine Ev.congr (f := fun k => incipitref21_Read.j0 k (B (x :: t)) false) (fun k => ?_) ?_
        · rw [if_neg (show ¬ (false = true) by decide), if_neg (by rw [B_toList]; simp), if_pos (by omega), show bt (B (x :: t)) 0 = (x.toNat : Int) from hbt, show ((x.toNat : Int) != 60) = false by rw [bne_eq_false_iff_eq]; exact e60.2 hx]
        · refine Ev.step (f := fun k => (incipitref21_name.f k (B t) false).bind fun t182 => (if t182 = 0 then (some zT) else (if 1 ≤ (wrap64 (1 + t182)) then (if (wrap64 (1 + t182)) ≤ ((B (x :: t)).size : Int) then (incipitref21_Read.l0 k (B (x :: t)) (wrap64 (1 + t182)) ((B (x :: t)).extract 1 ((wrap64 (1 + t182)) : Int).toNat) false false ([] : List S45)) else (none)) else (none)))) (fun k => by rw [incipitref21_Read.j0, if_neg (by decide), if_pos (by omega), he]; rfl) ?_
          refine Ev.bind (rname_ev t (by omega) false) ?_
          unfold rdB
          by_cases h0 : nm false 0 t = 0
          · rw [if_pos h0]
            exact Ev.congr (f := fun _ => some zT) (fun k => by rw [if_pos (by omega)]) (Ev.now _)
          · rw [if_neg h0]
            have hw1 : wrap64 (1 + ((nm false 0 t : Nat) : Int)) = ((nm false 0 t + 1 : Nat) : Int) := by rw [w64 (by omega) (by omega)]; omega
            have g1 : (1 : Int) ≤ ((nm false 0 t + 1 : Nat) : Int) := by omega
            have g2 : ((nm false 0 t + 1 : Nat) : Int) ≤ ((B (x :: t)).size : Int) := by rw [hsz]; omega
            have g0 : ¬ (((nm false 0 t : Nat) : Int) = 0) := by omega
            have hr := rread_at (x :: t) (by rw [List.length_cons]; omega) (B (t.take (nm false 0 t))) false false t.length (nm false 0 t + 1) [] (by rw [List.length_cons]; omega) (by rw [List.length_cons]; omega) (Nat.zero_le _)
            rw [List.drop_succ_cons, List.nil_append, List.length_cons] at hr
            refine Ev.congr (fun k => ?_) hr
            rw [if_neg g0, hw1, if_pos g1, if_pos g2, Int.toNat_natCast, B_extract, show nm false 0 t + 1 - 1 = nm false 0 t by omega]
            rfl
    · rw [rdT, if_neg hx]
      have hp : ([60, 47] : List UInt8).isPrefixOf (x :: t) = false := by
        rw [Bool.eq_false_iff]
        intro h
        simp [List.isPrefixOf] at h
        exact hx h.1.symm
      simp only [hp]
      refine Ev.congr (f := fun k => incipitref21_Read.j0 k (B (x :: t)) true) (fun k => ?_) zj
      rw [if_neg (show ¬ (false = true) by decide), if_neg (by rw [B_toList]; simp), if_pos (by omega), show bt (B (x :: t)) 0 = (x.toNat : Int) from hbt, show ((x.toNat : Int) != 60) = true by rw [bne_iff_ne]; exact fun e => hx (e60.1 e)]
end Go.Proofs.Ytjcfjgcnkbbgmaa.Pure

namespace Go.Proofs.Ytjcfjgcnkbbgmaa.Pure
open Go.RowKit Go.Proofs.YtjcfjgcnkbbgmaaW.PrintWords Go.Proofs.YtjcfjgcnkbbgmaaW.PrintMore Go.Proofs.Ytjcfjgcnkbbgmaa.Pl Go.Proofs.Ytjcfjgcnkbbgmaa.PA

/-- How long the tag is that a text begins with, how many attributes it has. -/
theorem rd_len (l : List UInt8) : 0 ≤ (rdT l).2.2.2.2 ∧ (rdT l).2.2.2.2 ≤ (l.length : Int) ∧ ((rdT l).2.2.2.1.length : Int) ≤ (rdT l).2.2.2.2 := by
  cases l with
  | nil => exact ⟨Int.le_refl _, Int.le_refl _, Int.le_refl _⟩
  | cons x t =>
    have z : 0 ≤ zT.2.2.2.2 ∧ zT.2.2.2.2 ≤ (((x :: t).length : Nat) : Int) ∧ (zT.2.2.2.1.length : Int) ≤ zT.2.2.2.2 := ⟨Int.le_refl _, Int.natCast_nonneg _, Int.le_refl _⟩
    rw [rdT]
    split
    · split
      · rename_i p1
        obtain ⟨u, rfl⟩ := List.isPrefixOf_iff_prefix.1 p1
        show 0 ≤ (rdE u).2.2.2.2 ∧ (rdE u).2.2.2.2 ≤ _ ∧ ((rdE u).2.2.2.1.length : Int) ≤ (rdE u).2.2.2.2
        unfold rdE
        have hn := nm_le false u 0
        split
        · exact z
        · split
          · rename_i p2
            have h2 := (List.isPrefixOf_iff_prefix.1 p2).length_le
            rw [List.length_drop] at h2
            simp only [List.length_singleton] at h2
            refine ⟨Int.natCast_nonneg _, ?_, ?_⟩
            · show ((nm false 0 u + 3 : Nat) : Int) ≤ _
              simp only [List.length_cons, List.length_append, List.length_nil]
              omega
            · show ((0 : Nat) : Int) ≤ ((nm false 0 u + 3 : Nat) : Int)
              omega
          · exact z
      · unfold rdB
        have hn := nm_le false t 0
        obtain ⟨q, hq⟩ : ∃ q, ats t.length (t.drop (nm false 0 t)) = q := ⟨_, rfl⟩
        have hql := ats_len t.length (t.drop (nm false 0 t))
        rw [hq] at hql ⊢
        rw [List.length_drop] at hql
        split
        · exact z
        · split
          · rename_i p2
            have h2 := (List.isPrefixOf_iff_prefix.1 p2).length_le
            simp only [List.length_singleton] at h2
            refine ⟨Int.natCast_nonneg _, ?_, ?_⟩
            · show ((t.length + 1 - q.2.length + 1 : Nat) : Int) ≤ _
              simp only [List.length_cons]
              omega
            · show ((q.1.length : Nat) : Int) ≤ ((t.length + 1 - q.2.length + 1 : Nat) : Int)
              omega
          · split
            · rename_i p3
              have h2 := (List.isPrefixOf_iff_prefix.1 p3).length_le
              simp only [List.length_cons, List.length_nil] at h2
              refine ⟨Int.natCast_nonneg _, ?_, ?_⟩
              · show ((t.length + 1 - q.2.length + 3 : Nat) : Int) ≤ _
                simp only [List.length_cons]
                omega
              · show ((q.1.length : Nat) : Int) ≤ ((t.length + 1 - q.2.length + 3 : Nat) : Int)
                omega
            · exact z
    · exact z
/-- A tag, or a byte. -/
abbrev Tok := (ByteArray × Bool × Bool × List S45) ⊕ UInt8
def tok : Nat → List UInt8 → List Tok
  | 0, _ => []
  | _ + 1, [] => []
  | f + 1, x :: t => if (rdT (x :: t)).2.2.2.2 = 0 then .inr x :: tok f t else .inl ((rdT (x :: t)).1, (rdT (x :: t)).2.1, (rdT (x :: t)).2.2.1, (rdT (x :: t)).2.2.2.1) :: tok f ((x :: t).drop (rdT (x :: t)).2.2.2.2.toNat)
theorem tok_nil (f : Nat) : tok f [] = [] := by cases f <;> rfl
theorem tok_byte (f : Nat) (x : UInt8) (t : List UInt8) (h : (rdT (x :: t)).2.2.2.2 = 0) : tok (f + 1) (x :: t) = .inr x :: tok f t := by rw [tok, if_pos h]
theorem tok_tag (f : Nat) (x : UInt8) (t : List UInt8) (h : ¬ (rdT (x :: t)).2.2.2.2 = 0) : tok (f + 1) (x :: t) = .inl ((rdT (x :: t)).1, (rdT (x :: t)).2.1, (rdT (x :: t)).2.2.1, (rdT (x :: t)).2.2.2.1) :: tok f ((x :: t).drop (rdT (x :: t)).2.2.2.2.toNat) := by rw [tok, if_neg h]
theorem tok_more : ∀ (f g : Nat) (l : List UInt8), l.length ≤ f → l.length ≤ g → tok f l = tok g l := by
  intro f
  induction f with
  | zero => intro g l h1 h2; obtain rfl : l = [] := List.length_eq_zero_iff.1 (by omega); rw [tok_nil, tok_nil]
  | succ f ih =>
    intro g l h1 h2
    cases l with
    | nil => rw [tok_nil, tok_nil]
    | cons x t =>
      rw [List.length_cons] at h1 h2
      obtain ⟨g, rfl⟩ : ∃ m, g = m + 1 := ⟨g - 1, by omega⟩
      have hd := rd_len (x :: t)
      rw [List.length_cons] at hd
      by_cases h0 : (rdT (x :: t)).2.2.2.2 = 0
      · rw [tok_byte f x t h0, tok_byte g x t h0, ih g t (by omega) (by omega)]
      · rw [tok_tag f x t h0, tok_tag g x t h0, ih g _ (by rw [List.length_drop, List.length_cons]; omega) (by rw [List.length_drop, List.length_cons]; omega)]
def tk (l : List UInt8) : List Tok := tok l.length l
theorem tk_nil : tk [] = [] := rfl
theorem tk_byte (x : UInt8) (t : List UInt8) (h : (rdT (x :: t)).2.2.2.2 = 0) : tk (x :: t) = .inr x :: tk t := tok_byte t.length x t h
theorem tk_tag (x : UInt8) (t : List UInt8) (h : ¬ (rdT (x :: t)).2.2.2.2 = 0) : tk (x :: t) = .inl ((rdT (x :: t)).1, (rdT (x :: t)).2.1, (rdT (x :: t)).2.2.1, (rdT (x :: t)).2.2.2.1) :: tk ((x :: t).drop (rdT (x :: t)).2.2.2.2.toNat) := by
  have hd := rd_len (x :: t)
  rw [List.length_cons] at hd
  show tok (t.length + 1) (x :: t) = _
  rw [tok_tag t.length x t h]
  congr 1
  exact tok_more _ _ _ (by rw [List.length_drop, List.length_cons]; omega) (Nat.le_refl _)
/-- What is gathered over tags and bytes. -/
def run {σ : Type} (fT : σ → ByteArray → Bool → Bool → List S45 → Option (Option σ)) (fO : σ → Int → Option (Option σ)) : σ → List Tok → Option (Option σ)
  | x, [] => some (some x)
  | x, .inl t :: r => (fT x t.1 t.2.1 t.2.2.1 t.2.2.2).bind fun q => (match q with | none => some none | some y => run fT fO y r)
  | x, .inr b :: r => (fO x (b.toNat : Int)).bind fun q => (match q with | none => some none | some y => run fT fO y r)
theorem each_run {σ : Type} (fT : σ → ByteArray → Bool → Bool → List S45 → Option (Option σ)) (fO : σ → Int → Option (Option σ)) : ∀ (g : Nat) (l : List UInt8), l.length ≤ g → l.length ≤ 1073741823 →
    ∃ K, ∀ k, K ≤ k → ∀ f, l.length < f → ∀ x, tags_each.l fT fO k f (B l) x = run fT fO x (tk l) := by
  intro g
  induction g with
  | zero =>
    intro l h1 h2
    obtain rfl : l = [] := List.length_eq_zero_iff.1 (by omega)
    refine ⟨0, fun k _ f hf x => ?_⟩
    obtain ⟨f, rfl⟩ : ∃ m, f = m + 1 := ⟨f - 1, by simp at hf; omega⟩
    rw [tags_each.l, if_pos (B_toList []), tk_nil, run]
  | succ g ih =>
    intro l h1 h2
    cases l with
    | nil =>
      refine ⟨0, fun k _ f hf x => ?_⟩
      obtain ⟨f, rfl⟩ : ∃ m, f = m + 1 := ⟨f - 1, by simp at hf; omega⟩
      rw [tags_each.l, if_pos (B_toList []), tk_nil, run]
    | cons x0 t =>
      obtain ⟨K0, hK0⟩ : ∃ K, ∀ k, K ≤ k → tags_Read.f k (B (x0 :: t)) = some (rdT (x0 :: t)) := read_ev (x0 :: t) (by omega)
      have hd := rd_len (x0 :: t)
      rw [List.length_cons] at h1 h2 hd
      have hsz : ((B (x0 :: t)).size : Int) = (t.length : Int) + 1 := by rw [B_size, List.length_cons]; omega
      have hbt := B_bt (x0 :: t) 0 (by simp)
      rw [List.getElem_cons_zero] at hbt
      by_cases h0 : (rdT (x0 :: t)).2.2.2.2 = 0
      · obtain ⟨K1, hK1⟩ := ih t (by omega) (by omega)
        refine ⟨max K0 K1, fun k hk f hf x => ?_⟩
        obtain ⟨f, rfl⟩ : ∃ m, f = m + 1 := ⟨f - 1, by omega⟩
        rw [List.length_cons] at hf
        have he : (B (x0 :: t)).extract 1 (B (x0 :: t)).size = B t := by rw [B_from _ 1 _ (B_size _)]; rfl
        rw [tags_each.l, if_neg (by rw [B_toList]; simp), hK0 k (by omega), Option.bind_some, if_pos h0, show bt (B (x0 :: t)) 0 = (x0.toNat : Int) from hbt, he, tk_byte x0 t h0, run]
        congr 1
        funext q
        cases q with
        | none => rfl
        | some y => exact hK1 k (by omega) f (by omega) y
      · obtain ⟨d, hdd⟩ : ∃ d : Nat, (rdT (x0 :: t)).2.2.2.2 = (d : Int) := ⟨(rdT (x0 :: t)).2.2.2.2.toNat, by omega⟩
        have hdl : ((x0 :: t).drop d).length ≤ t.length := by rw [List.length_drop, List.length_cons]; omega
        obtain ⟨K1, hK1⟩ := ih ((x0 :: t).drop d) (by omega) (by omega)
        refine ⟨max K0 K1, fun k hk f hf x => ?_⟩
        obtain ⟨f, rfl⟩ : ∃ m, f = m + 1 := ⟨f - 1, by omega⟩
        rw [List.length_cons] at hf
        rw [tags_each.l, if_neg (by rw [B_toList]; simp), hK0 k (by omega), Option.bind_some, if_neg h0, if_pos ⟨hd.1, by omega⟩, tk_tag x0 t h0, hdd, Int.toNat_natCast, B_from _ _ _ (B_size _), run]
        congr 1
        funext q
        cases q with
        | none => rfl
        | some y => exact hK1 k (by omega) f (by omega) y
theorem each_ev {σ : Type} (fT : σ → ByteArray → Bool → Bool → List S45 → Option (Option σ)) (fO : σ → Int → Option (Option σ)) (l : List UInt8) (hl : l.length ≤ 1073741823) (x : σ) (r : Option σ) (h : run fT fO x (tk l) = some r) :
    Ev (fun k => tags_each.l fT fO k k (B l) x) r := by
  obtain ⟨K, hK⟩ := each_run fT fO l.length l (Nat.le_refl _) hl
  exact ⟨max K (l.length + 1), fun k hk => (hK k (by omega) k (by omega) x).trans h⟩
theorem tok_len : ∀ (f : Nat) (l : List UInt8), l.length ≤ f → (tok f l).length ≤ l.length := by
  intro f
  induction f with
  | zero => intro l h; simp [tok]
  | succ f ih =>
    intro l h
    cases l with
    | nil => simp [tok]
    | cons x t =>
      have hd := rd_len (x :: t)
      rw [List.length_cons] at h hd ⊢
      by_cases h0 : (rdT (x :: t)).2.2.2.2 = 0
      · rw [tok_byte f x t h0, List.length_cons]
        have := ih t (by omega)
        omega
      · rw [tok_tag f x t h0, List.length_cons]
        have h2 : ((x :: t).drop (rdT (x :: t)).2.2.2.2.toNat).length ≤ t.length := by rw [List.length_drop, List.length_cons]; omega
        have := ih _ (Nat.le_trans h2 (by omega))
        omega
theorem tk_len (l : List UInt8) : (tk l).length ≤ l.length := tok_len _ l (Nat.le_refl _)
/-! #### what is left of a text -/
def txtK : List Tok → List UInt8
  | [] => []
  | .inl _ :: r => txtK r
  | .inr b :: r => b :: txtK r
theorem run_txt : ∀ (ts : List Tok) (x : List UInt8), x.length + ts.length ≤ 1048576 → run txtT txtO x ts = some (some (x ++ txtK ts))
  | [], x, _ => by rw [run, txtK, List.append_nil]
  | .inl t :: r, x, h => by
    rw [List.length_cons] at h
    rw [run, txtK]
    exact run_txt r x (by omega)
  | .inr b :: r, x, h => by
    rw [List.length_cons] at h
    rw [run, txtK]
    unfold txtO
    rw [if_pos (by omega), Int.toNat_natCast, show b.toNat.toUInt8 = b from by simp]
    have := run_txt r (x ++ [b]) (by rw [List.length_append, List.length_singleton]; omega)
    rw [List.append_assoc] at this
    exact this
theorem text_ev (l : List UInt8) (hl : l.length ≤ 1048576) : Ev (fun k => tags_Text.f k (B l)) (B (txtK (tk l))) := by
  have h := each_ev txtT txtO l (by omega) [] _ (run_txt (tk l) [] (by have := tk_len l; simp; omega))
  unfold tags_Text.f
  exact Ev.bind h (Ev.now _)
/-! #### ids -/
def idsK : List Tok → List ByteArray
  | [] => []
  | .inl t :: r => idsL t.2.2.2 ++ idsK r
  | .inr _ :: r => idsK r
def attN : List Tok → Nat
  | [] => 0
  | .inl t :: r => t.2.2.2.length + attN r
  | .inr _ :: r => attN r
theorem run_ids : ∀ (ts : List Tok) (x : List ByteArray), x.length + attN ts ≤ 1048576 → run idsT idsO x ts = some (some (x ++ idsK ts))
  | [], x, _ => by rw [run, idsK, List.append_nil]
  | .inl t :: r, x, h => by
    rw [attN] at h
    rw [run, idsK]
    unfold idsT
    rw [if_pos (by omega)]
    have hl := idsL_len t.2.2.2
    have := run_ids r (x ++ idsL t.2.2.2) (by rw [List.length_append]; omega)
    rw [List.append_assoc] at this
    exact this
  | .inr b :: r, x, h => by
    rw [attN] at h
    rw [run, idsK]
    exact run_ids r x h
theorem tok_att : ∀ (f : Nat) (l : List UInt8), l.length ≤ f → attN (tok f l) ≤ l.length := by
  intro f
  induction f with
  | zero => intro l h; simp [tok, attN]
  | succ f ih =>
    intro l h
    cases l with
    | nil => simp [tok, attN]
    | cons x t =>
      have hd := rd_len (x :: t)
      rw [List.length_cons] at h hd ⊢
      by_cases h0 : (rdT (x :: t)).2.2.2.2 = 0
      · rw [tok_byte f x t h0, attN]
        have := ih t (by omega)
        omega
      · rw [tok_tag f x t h0, attN]
        have h2 : ((x :: t).drop (rdT (x :: t)).2.2.2.2.toNat).length = t.length + 1 - (rdT (x :: t)).2.2.2.2.toNat := by rw [List.length_drop, List.length_cons]
        have := ih ((x :: t).drop (rdT (x :: t)).2.2.2.2.toNat) (by omega)
        dsimp only
        omega
theorem ids_ev (l : List UInt8) (hl : l.length ≤ 1048576) : Ev (fun k => tags_Ids.f k (B l)) (idsK (tk l)) := by
  have h := each_ev idsT idsO l (by omega) [] _ (run_ids (tk l) [] (by have := tok_att _ l (Nat.le_refl _); show 0 + attN (tok l.length l) ≤ _; omega))
  unfold tags_Ids.f
  rw [List.nil_append] at h
  exact Ev.bind h (Ev.now _)
/-! #### the check -/
def chkK : List ByteArray → List Tok → Option (List ByteArray)
  | x, [] => some x
  | x, .inl t :: r => if t.2.1 = true then (match x.getLast? with | none => none | some y => if y.toList = t.1.toList then chkK x.dropLast r else none) else if t.2.2.1 = true then chkK x r else chkK (x ++ [t.1]) r
  | x, .inr b :: r => if b = 60 ∨ b = 62 then none else chkK x r
theorem run_chk : ∀ (ts : List Tok) (x : List ByteArray), x.length + ts.length ≤ 1048576 → run chkT chkO x ts = some (chkK x ts)
  | [], x, _ => by rw [run, chkK]
  | .inl t :: r, x, h => by
    rw [List.length_cons] at h
    rw [run, chkK]
    unfold chkT
    by_cases he : t.2.1 = true
    · rw [if_pos he, if_pos he]
      cases hg : x.getLast? with
      | none => rfl
      | some y =>
        dsimp only
        by_cases hy : y.toList = t.1.toList
        · rw [if_pos hy, if_pos hy]
          exact run_chk r x.dropLast (by rw [List.length_dropLast]; omega)
        · rw [if_neg hy, if_neg hy]
          rfl
    · rw [if_neg he, if_neg he]
      by_cases hv : t.2.2.1 = true
      · rw [if_pos hv, if_pos hv]
        exact run_chk r x (by omega)
      · rw [if_neg hv, if_neg hv, if_pos (by omega)]
        exact run_chk r (x ++ [t.1]) (by rw [List.length_append, List.length_singleton]; omega)
  | .inr b :: r, x, h => by
    rw [List.length_cons] at h
    have e60 : ((b.toNat : Int) = 60) ↔ b = 60 := u8_eq b 60 (by decide)
    have e62 : ((b.toNat : Int) = 62) ↔ b = 62 := u8_eq b 62 (by decide)
    rw [run, chkK]
    unfold chkO
    by_cases hb : b = 60 ∨ b = 62
    · rw [if_pos hb, if_pos (hb.imp e60.2 e62.2)]
      rfl
    · rw [if_neg hb, if_neg (fun e => hb (e.imp e60.1 e62.1))]
      exact run_chk r x (by omega)
theorem check_ev (l : List UInt8) (hl : l.length ≤ 1048576) : Ev (fun k => tags_Check.f k (B l)) (chkR (chkK [] (tk l))) := by
  have h := each_ev chkT chkO l (by omega) [] _ (run_chk (tk l) [] (by have := tk_len l; simp; omega))
  obtain ⟨K, hK⟩ : ∃ K, ∀ k, K ≤ k → tags_each.l chkT chkO k k (B l) [] = some (chkK [] (tk l)) := h
  exact ⟨K, fun k hk => by show Option.map chkR (tags_each.l chkT chkO k k (B l) []) = _; rw [hK k hk]; rfl⟩
end Go.Proofs.Ytjcfjgcnkbbgmaa.Pure

namespace Go.Proofs.Ytjcfjgcnkbbgmaa.Pure
open Go.RowKit Go.Proofs.YtjcfjgcnkbbgmaaW.PrintWords Go.Proofs.YtjcfjgcnkbbgmaaW.PrintMore Go.Proofs.Ytjcfjgcnkbbgmaa.Pl Go.Proofs.Ytjcfjgcnkbbgmaa.PA

def ends (r : List UInt8) : Prop := ([62] : List UInt8).isPrefixOf r = true ∨ ([32, 47, 62] : List UInt8).isPrefixOf r = true
theorem awake_ev : Ev (fun k => incipitlaw21_awake.f k) true := Ev.of (k := 40) (fun k => incipitlaw21_awake.mono k) (by decide +kernel)
end Go.Proofs.Ytjcfjgcnkbbgmaa.Pure

namespace Go.Proofs.Ytjcfjgcnkbbgmaa.Pure
open Go.RowKit Go.Proofs.YtjcfjgcnkbbgmaaW.PrintWords Go.Proofs.YtjcfjgcnkbbgmaaW.PrintMore Go.Proofs.Ytjcfjgcnkbbgmaa.Pl Go.Proofs.Ytjcfjgcnkbbgmaa.PA

theorem Ev.guard {α : Type} {c : Prop} [Decidable c] {g f : Nat → Option α} {r : α} (h : c) (k : Ev g r) : Ev (fun n => if c then g n else f n) r := Ev.congr (fun _ => if_pos h) k
theorem Ev.other {α : Type} {c : Prop} [Decidable c] {g f : Nat → Option α} {r : α} (h : ¬ c) (k : Ev f r) : Ev (fun n => if c then g n else f n) r := Ev.congr (fun _ => if_neg h) k
theorem Ev.succ {α : Type} {g : Nat → Option α} {r : α} (h : Ev (fun k => g (k + 1)) r) : Ev g r := Ev.step (fun _ => rfl) h
end Go.Proofs.Ytjcfjgcnkbbgmaa.Pure

namespace Go.Proofs.Ytjcfjgcnkbbgmaa.PA
open Go.RowKit Go.Proofs.YtjcfjgcnkbbgmaaW.PrintWords Go.Proofs.YtjcfjgcnkbbgmaaW.PrintLast Go.Proofs.YtjcfjgcnkbbgmaaW.PrintMore
attribute [local go_sem] max2_int min2_int max_two min_two max_three min_three max_four min_four   -- for this text's walks alone
set_option linter.unusedVariables false
set_option linter.unusedSimpArgs false

/-! ### incipitref21_Same: function 10 -/
mutual
def incipitref21_Same.j0 : Nat → Bool → ByteArray → Bool → Bool → List (S45) → ByteArray → Bool → Bool → List (S45) → Option (Bool)
  | 0, _, _, _, _, _, _, _, _, _ => none
  | k + 1, x33, x194000, x194001, x194002, x194003, x195000, x195001, x195002, x195003 => if x33 = true then (some false) else (incipitref21_Same.l0 k 0 x194000 x194001 x194002 x194003 x195000 x195001 x195002 x195003)
def incipitref21_Same.l0 : Nat → Int → ByteArray → Bool → Bool → List (S45) → ByteArray → Bool → Bool → List (S45) → Option (Bool)
  | 0, _, _, _, _, _, _, _, _, _ => none
  | k + 1, x5, x194000, x194001, x194002, x194003, x195000, x195001, x195002, x195003 => if x5 < (x194003.length : Int) then (if 0 ≤ x5 then (if x5 < (x195003.length : Int) then (if ((rd_T45 x194003 x5).f0).toList = ((rd_T45 x195003 x5).f0).toList then (if ((rd_T45 x194003 x5).f1).toList = ((rd_T45 x195003 x5).f1).toList then (incipitref21_Same.l0 k (wrap64 (x5 + 1)) x194000 x194001 x194002 x194003 x195000 x195001 x195002 x195003) else (some false)) else (some false)) else (none)) else (none)) else (some true)
end
def incipitref21_Same.f (k : Nat) (a0_0 : ByteArray) (a0_1 : Bool) (a0_2 : Bool) (l0_3 : List (S45)) (a1_0 : ByteArray) (a1_1 : Bool) (a1_2 : Bool) (l1_3 : List (S45)) : Option (Bool) := if a0_0.toList = a1_0.toList then (if (a0_1 != a1_1) = true then (incipitref21_Same.j0 k true a0_0 a0_1 a0_2 l0_3 a1_0 a1_1 a1_2 l1_3) else (if (a0_2 != a1_2) = true then (incipitref21_Same.j0 k true a0_0 a0_1 a0_2 l0_3 a1_0 a1_1 a1_2 l1_3) else (incipitref21_Same.j0 k ((l0_3.length : Int) != (l1_3.length : Int)) a0_0 a0_1 a0_2 l0_3 a1_0 a1_1 a1_2 l1_3))) else (incipitref21_Same.j0 k true a0_0 a0_1 a0_2 l0_3 a1_0 a1_1 a1_2 l1_3)
set_option maxHeartbeats 8000000 in
set_option maxRecDepth 100000 in
theorem incipitref21_Same.calls (k : Nat) (a0_0 : ByteArray) (a0_1 : Bool) (a0_2 : Bool) (A0_3 : Option Addr) (c0_3 : Nat) (l0_3 : List (S45)) (a1_0 : ByteArray) (a1_1 : Bool) (a1_2 : Bool) (A1_3 : Option Addr) (c1_3 : Nat) (l1_3 : List (S45)) (r : Bool) (w : World) (hr0_3 : Kd.C k45 w A0_3 l0_3.length l0_3) (hc0_3 : l0_3.length ≤ c0_3) (hr1_3 : Kd.C k45 w A1_3 l1_3.length l1_3) (hc1_3 : l1_3.length ≤ c1_3) (h : incipitref21_Same.f k a0_0 a0_1 a0_2 l0_3 a1_0 a1_1 a1_2 l1_3 = some r) :
    Calls Try.prog 10 #[.agg #[.string a0_0, .bool a0_1, .bool a0_2, .slice A0_3 l0_3.length c0_3], .agg #[.string a1_0, .bool a1_1, .bool a1_2, .slice A1_3 l1_3.length c1_3]] w fun e w' => e = .returned (.bool r) ∧ Below w.heap.size w w' := by
  have hu28 := Try.underlying28
  have HR0_3 := Aside0.mk hr0_3
  have HC0_3 := Aside0.mk hc0_3
  clear hr0_3 hc0_3
  have HR1_3 := Aside0.mk hr1_3
  have HC1_3 := Aside0.mk hc1_3
  clear hr1_3 hc1_3
  have HB := Aside0.mk (Below.refl w.heap.size w)
  have H : (if a0_0.toList = a1_0.toList then (if (a0_1 != a1_1) = true then (incipitref21_Same.j0 k true a0_0 a0_1 a0_2 l0_3 a1_0 a1_1 a1_2 l1_3) else (if (a0_2 != a1_2) = true then (incipitref21_Same.j0 k true a0_0 a0_1 a0_2 l0_3 a1_0 a1_1 a1_2 l1_3) else (incipitref21_Same.j0 k ((l0_3.length : Int) != (l1_3.length : Int)) a0_0 a0_1 a0_2 l0_3 a1_0 a1_1 a1_2 l1_3))) else (incipitref21_Same.j0 k true a0_0 a0_1 a0_2 l0_3 a1_0 a1_1 a1_2 l1_3)) = some r := h
  clear h
  have HC3 := Aside0.mk H
  clear H
  go_enter Try.func10, Try.ntmps10
  go_upto_region 1 with (first | ((with_reducible refine gate_dst (N := 2) rfl ?_); (try (refine gate_guard (by rfl) ?_; dsimp only)); refine box_event ?hg (N := 2) ?hd (cs := #[.string a0_0, .bool a0_1, .bool a0_2, .slice A0_3 l0_3.length c0_3]) (t := 28) ?hr ?_; (case hd => rfl); (case hg => rfl); (case hr => first | (go_simp; done) | (go_simp; rfl)); intro gb193 hg w4 hbox hb; have n0_ := Aside0.mk (below_step (by repeat (first | (with_reducible first | exact HB.out | apply below_alloc | apply pw_below_drewN | apply below_drew1) | exact HB.out)) hb); have n1_ := Aside0.mk (hbox); have n2_ := Aside0.mk ((by rw [hg]; exact (below_size (by repeat (first | (with_reducible first | exact HB.out | apply below_alloc | apply pw_below_drewN | apply below_drew1) | exact HB.out))) : w.heap.size ≤ gb193)); have n3_ := Aside0.mk ((by rw [hg]; exact (below_size (by repeat (first | (with_reducible first | exact HB.out | apply below_alloc | apply pw_below_drewN | apply below_drew1) | exact HB.out))) : w.heap.size ≤ gb193)); clear HB; have HB := n0_; have BK193 := n1_; have GW193 := n2_; have GE193 := n3_; clear n0_ n1_ n2_ n3_; clear hb hbox hg) | ((with_reducible refine gate_dst (N := 3) rfl ?_); (try (refine gate_guard (by rfl) ?_; dsimp only)); refine box_event ?hg (N := 3) ?hd (cs := #[.string a1_0, .bool a1_1, .bool a1_2, .slice A1_3 l1_3.length c1_3]) (t := 28) ?hr ?_; (case hd => rfl); (case hg => rfl); (case hr => first | (go_simp; done) | (go_simp; rfl)); intro gb194 hg w5 hbox hb; have n0_ := Aside0.mk (blk_below (g := gb193) (o := .cells #[.string a0_0, .bool a0_1, .bool a0_2, .slice A0_3 l0_3.length c0_3] 28 (0, 0)) (by (with_reducible repeat (first | refine blk_drewN ?_ _ | refine blk_drew ?_ | refine blk_alloc ?_ _)); exact BK193.out) hb); have n1_ := Aside0.mk (below_step (by repeat (first | (with_reducible first | exact HB.out | apply below_alloc | apply pw_below_drewN | apply below_drew1 | refine below_set ?_ GE193.out) | exact HB.out)) hb); have n2_ := Aside0.mk (hbox); have n3_ := Aside0.mk ((by rw [hg]; exact (below_size (by repeat (first | (with_reducible first | exact HB.out | apply below_alloc | apply pw_below_drewN | apply below_drew1 | refine below_set ?_ GE193.out) | exact HB.out))) : w.heap.size ≤ gb194)); have n4_ := Aside0.mk ((by rw [hg]; exact (below_size (by repeat (first | (with_reducible first | exact HB.out | apply below_alloc | apply pw_below_drewN | apply below_drew1 | refine below_set ?_ GE193.out) | exact HB.out))) : w.heap.size ≤ gb194)); have n5_ := Aside0.mk ((by rw [hg]; exact Nat.ne_of_lt (blk_lt (g := gb193) (o := .cells #[.string a0_0, .bool a0_1, .bool a0_2, .slice A0_3 l0_3.length c0_3] 28 (0, 0)) (by (with_reducible repeat (first | refine blk_drewN ?_ _ | refine blk_drew ?_ | refine blk_alloc ?_ _)); exact BK193.out)) : gb193 ≠ gb194)); have n6_ := Aside0.mk ((by rw [hg]; exact Nat.ne_of_gt (blk_lt (g := gb193) (o := .cells #[.string a0_0, .bool a0_1, .bool a0_2, .slice A0_3 l0_3.length c0_3] 28 (0, 0)) (by (with_reducible repeat (first | refine blk_drewN ?_ _ | refine blk_drew ?_ | refine blk_alloc ?_ _)); exact BK193.out)) : gb194 ≠ gb193)); clear BK193; clear HB; have BK193 := n0_; have HB := n1_; have BK194 := n2_; have GW194 := n3_; have GE194 := n4_; have NB193_194 := n5_; have NB194_193 := n6_; clear n0_ n1_ n2_ n3_ n4_ n5_ n6_; clear hb hbox hg))
  repeat (go_quiet (first | ((with_reducible refine gate_dst (N := 2) rfl ?_); (try (refine gate_guard (by rfl) ?_; dsimp only)); refine box_event ?hg (N := 2) ?hd (cs := #[.string a0_0, .bool a0_1, .bool a0_2, .slice A0_3 l0_3.length c0_3]) (t := 28) ?hr ?_; (case hd => rfl); (case hg => rfl); (case hr => first | (go_simp; done) | (go_simp; rfl)); intro gb193 hg w4 hbox hb; have n0_ := Aside0.mk (below_step (by repeat (first | (with_reducible first | exact HB.out | apply below_alloc | apply pw_below_drewN | apply below_drew1) | exact HB.out)) hb); have n1_ := Aside0.mk (hbox); have n2_ := Aside0.mk ((by rw [hg]; exact (below_size (by repeat (first | (with_reducible first | exact HB.out | apply below_alloc | apply pw_below_drewN | apply below_drew1) | exact HB.out))) : w.heap.size ≤ gb193)); have n3_ := Aside0.mk ((by rw [hg]; exact (below_size (by repeat (first | (with_reducible first | exact HB.out | apply below_alloc | apply pw_below_drewN | apply below_drew1) | exact HB.out))) : w.heap.size ≤ gb193)); clear HB; have HB := n0_; have BK193 := n1_; have GW193 := n2_; have GE193 := n3_; clear n0_ n1_ n2_ n3_; clear hb hbox hg) | ((with_reducible refine gate_dst (N := 3) rfl ?_); (try (refine gate_guard (by rfl) ?_; dsimp only)); refine box_event ?hg (N := 3) ?hd (cs := #[.string a1_0, .bool a1_1, .bool a1_2, .slice A1_3 l1_3.length c1_3]) (t := 28) ?hr ?_; (case hd => rfl); (case hg => rfl); (case hr => first | (go_simp; done) | (go_simp; rfl)); intro gb194 hg w5 hbox hb; have n0_ := Aside0.mk (blk_below (g := gb193) (o := .cells #[.string a0_0, .bool a0_1, .bool a0_2, .slice A0_3 l0_3.length c0_3] 28 (0, 0)) (by (with_reducible repeat (first | refine blk_drewN ?_ _ | refine blk_drew ?_ | refine blk_alloc ?_ _)); exact BK193.out) hb); have n1_ := Aside0.mk (below_step (by repeat (first | (with_reducible first | exact HB.out | apply below_alloc | apply pw_below_drewN | apply below_drew1 | refine below_set ?_ GE193.out) | exact HB.out)) hb); have n2_ := Aside0.mk (hbox); have n3_ := Aside0.mk ((by rw [hg]; exact (below_size (by repeat (first | (with_reducible first | exact HB.out | apply below_alloc | apply pw_below_drewN | apply below_drew1 | refine below_set ?_ GE193.out) | exact HB.out))) : w.heap.size ≤ gb194)); have n4_ := Aside0.mk ((by rw [hg]; exact (below_size (by repeat (first | (with_reducible first | exact HB.out | apply below_alloc | apply pw_below_drewN | apply below_drew1 | refine below_set ?_ GE193.out) | exact HB.out))) : w.heap.size ≤ gb194)); have n5_ := Aside0.mk ((by rw [hg]; exact Nat.ne_of_lt (blk_lt (g := gb193) (o := .cells #[.string a0_0, .bool a0_1, .bool a0_2, .slice A0_3 l0_3.length c0_3] 28 (0, 0)) (by (with_reducible repeat (first | refine blk_drewN ?_ _ | refine blk_drew ?_ | refine blk_alloc ?_ _)); exact BK193.out)) : gb193 ≠ gb194)); have n6_ := Aside0.mk ((by rw [hg]; exact Nat.ne_of_gt (blk_lt (g := gb193) (o := .cells #[.string a0_0, .bool a0_1, .bool a0_2, .slice A0_3 l0_3.length c0_3] 28 (0, 0)) (by (with_reducible repeat (first | refine blk_drewN ?_ _ | refine blk_drew ?_ | refine blk_alloc ?_ _)); exact BK193.out)) : gb194 ≠ gb193)); clear BK193; clear HB; have BK193 := n0_; have HB := n1_; have BK194 := n2_; have GW194 := n3_; have GE194 := n4_; have NB193_194 := n5_; have NB194_193 := n6_; clear n0_ n1_ n2_ n3_ n4_ n5_ n6_; clear hb hbox hg)); go_upto_region 1 with (first | ((with_reducible refine gate_dst (N := 2) rfl ?_); (try (refine gate_guard (by rfl) ?_; dsimp only)); refine box_event ?hg (N := 2) ?hd (cs := #[.string a0_0, .bool a0_1, .bool a0_2, .slice A0_3 l0_3.length c0_3]) (t := 28) ?hr ?_; (case hd => rfl); (case hg => rfl); (case hr => first | (go_simp; done) | (go_simp; rfl)); intro gb193 hg w4 hbox hb; have n0_ := Aside0.mk (below_step (by repeat (first | (with_reducible first | exact HB.out | apply below_alloc | apply pw_below_drewN | apply below_drew1) | exact HB.out)) hb); have n1_ := Aside0.mk (hbox); have n2_ := Aside0.mk ((by rw [hg]; exact (below_size (by repeat (first | (with_reducible first | exact HB.out | apply below_alloc | apply pw_below_drewN | apply below_drew1) | exact HB.out))) : w.heap.size ≤ gb193)); have n3_ := Aside0.mk ((by rw [hg]; exact (below_size (by repeat (first | (with_reducible first | exact HB.out | apply below_alloc | apply pw_below_drewN | apply below_drew1) | exact HB.out))) : w.heap.size ≤ gb193)); clear HB; have HB := n0_; have BK193 := n1_; have GW193 := n2_; have GE193 := n3_; clear n0_ n1_ n2_ n3_; clear hb hbox hg) | ((with_reducible refine gate_dst (N := 3) rfl ?_); (try (refine gate_guard (by rfl) ?_; dsimp only)); refine box_event ?hg (N := 3) ?hd (cs := #[.string a1_0, .bool a1_1, .bool a1_2, .slice A1_3 l1_3.length c1_3]) (t := 28) ?hr ?_; (case hd => rfl); (case hg => rfl); (case hr => first | (go_simp; done) | (go_simp; rfl)); intro gb194 hg w5 hbox hb; have n0_ := Aside0.mk (blk_below (g := gb193) (o := .cells #[.string a0_0, .bool a0_1, .bool a0_2, .slice A0_3 l0_3.length c0_3] 28 (0, 0)) (by (with_reducible repeat (first | refine blk_drewN ?_ _ | refine blk_drew ?_ | refine blk_alloc ?_ _)); exact BK193.out) hb); have n1_ := Aside0.mk (below_step (by repeat (first | (with_reducible first | exact HB.out | apply below_alloc | apply pw_below_drewN | apply below_drew1 | refine below_set ?_ GE193.out) | exact HB.out)) hb); have n2_ := Aside0.mk (hbox); have n3_ := Aside0.mk ((by rw [hg]; exact (below_size (by repeat (first | (with_reducible first | exact HB.out | apply below_alloc | apply pw_below_drewN | apply below_drew1 | refine below_set ?_ GE193.out) | exact HB.out))) : w.heap.size ≤ gb194)); have n4_ := Aside0.mk ((by rw [hg]; exact (below_size (by repeat (first | (with_reducible first | exact HB.out | apply below_alloc | apply pw_below_drewN | apply below_drew1 | refine below_set ?_ GE193.out) | exact HB.out))) : w.heap.size ≤ gb194)); have n5_ := Aside0.mk ((by rw [hg]; exact Nat.ne_of_lt (blk_lt (g := gb193) (o := .cells #[.string a0_0, .bool a0_1, .bool a0_2, .slice A0_3 l0_3.length c0_3] 28 (0, 0)) (by (with_reducible repeat (first | refine blk_drewN ?_ _ | refine blk_drew ?_ | refine blk_alloc ?_ _)); exact BK193.out)) : gb193 ≠ gb194)); have n6_ := Aside0.mk ((by rw [hg]; exact Nat.ne_of_gt (blk_lt (g := gb193) (o := .cells #[.string a0_0, .bool a0_1, .bool a0_2, .slice A0_3 l0_3.length c0_3] 28 (0, 0)) (by (with_reducible repeat (first | refine blk_drewN ?_ _ | refine blk_drew ?_ | refine blk_alloc ?_ _)); exact BK193.out)) : gb194 ≠ gb193)); clear BK193; clear HB; have BK193 := n0_; have HB := n1_; have BK194 := n2_; have GW194 := n3_; have GE194 := n4_; have NB193_194 := n5_; have NB194_193 := n6_; clear n0_ n1_ n2_ n3_ n4_ n5_ n6_; clear hb hbox hg)))
  (try simp only [Act.put, List.setIfInBounds_toArray, List.set_cons_zero, List.set_cons_succ])
  go_cut [33] (fun v33 wc => ∃ (kq : Nat) (x33_2 : Bool), v33 = .bool x33_2 ∧ Aside0 (incipitref21_Same.j0 kq x33_2 a0_0 a0_1 a0_2 l0_3 a1_0 a1_1 a1_2 l1_3 = some r) ∧ Aside0 (kq ≤ k) ∧ Aside0 (wc.heap[gb193]? = some (.cells #[.string a0_0, .bool a0_1, .bool a0_2, (.slice A0_3 l0_3.length c0_3)] 28 (0, 0))) ∧ Aside0 (wc.heap[gb194]? = some (.cells #[.string a1_0, .bool a1_1, .bool a1_2, (.slice A1_3 l1_3.length c1_3)] 28 (0, 0))) ∧ Aside0 (Below w.heap.size w wc))
  case first =>
    have H := HC3.out
    clear HC3
    by_cases c6 : a0_0.toList = a1_0.toList
    · rw [if_pos c6] at H
      have c6b0 : (a0_0.toList == a1_0.toList) = true := beq_iff_eq.mpr c6
      have c6b1 : (a0_0.toList != a1_0.toList) = false := bne_eq_false_iff_eq.mpr c6
      clear c6
      (first | rw [c6b0] | (simp only [i64_w, i32_w]; rw [c6b0]) | skip)
      by_cases c7 : (a0_1 != a1_1) = true
      · rw [if_pos c7] at H
        have c7b0 : (a0_1 != a1_1) = true := c7
        (try (have c7b1 : decide (a0_1 = a1_1) = false := by simpa using c7))
        (try (have c7b2 : (a0_1 == a1_1) = false := by simpa using c7))
        (try (have c7b3 : ¬ (a0_1 = a1_1) := by simpa using c7))
        clear c7
        have H' := Aside0.mk H
        clear H
        have hnb8 := NB193_194.out
        have hnc8 := NB194_193.out
        have hcz9_0 : w5.cell? ⟨gb193, 0, none⟩ = some (.string a0_0) := (blk_cell BK193.out 0).trans rfl
        have hcz9_1 : w5.cell? ⟨gb193, 1, none⟩ = some (.bool a0_1) := (blk_cell BK193.out 1).trans rfl
        have hcz9_2 : w5.cell? ⟨gb193, 2, none⟩ = some (.bool a0_2) := (blk_cell BK193.out 2).trans rfl
        have hcz9_3 : w5.cell? ⟨gb193, 3, none⟩ = some (.slice A0_3 l0_3.length c0_3) := (blk_cell BK193.out 3).trans rfl
        have hfz9_0 := blk_frozen BK193.out 0
        have hfz9_1 := blk_frozen BK193.out 1
        have hfz9_2 := blk_frozen BK193.out 2
        have hfz9_3 := blk_frozen BK193.out 3
        have hcz10_0 : w5.cell? ⟨gb194, 0, none⟩ = some (.string a1_0) := (blk_cell BK194.out 0).trans rfl
        have hcz10_1 : w5.cell? ⟨gb194, 1, none⟩ = some (.bool a1_1) := (blk_cell BK194.out 1).trans rfl
        have hcz10_2 : w5.cell? ⟨gb194, 2, none⟩ = some (.bool a1_2) := (blk_cell BK194.out 2).trans rfl
        have hcz10_3 : w5.cell? ⟨gb194, 3, none⟩ = some (.slice A1_3 l1_3.length c1_3) := (blk_cell BK194.out 3).trans rfl
        have hfz10_0 := blk_frozen BK194.out 0
        have hfz10_1 := blk_frozen BK194.out 1
        have hfz10_2 := blk_frozen BK194.out 2
        have hfz10_3 := blk_frozen BK194.out 3
        go_wp2
        repeat (go_quiet (fail); try go_wp2)
        go_meet
        case rel => exact ⟨_, (true), (by first | rfl | (simp; done) | (simp [*]; done)), H', ⟨by first | omega | exact Nat.le_refl _⟩, ⟨by (with_reducible repeat (first | refine blk_drewN ?_ _ | refine blk_drew ?_ | refine blk_alloc ?_ _)); exact BK193.out⟩, ⟨by (with_reducible repeat (first | refine blk_drewN ?_ _ | refine blk_drew ?_ | refine blk_alloc ?_ _)); exact BK194.out⟩, ⟨by repeat (first | (with_reducible first | exact HB.out | apply below_alloc | apply pw_below_drewN | apply below_drew1 | refine below_set ?_ GE193.out | refine below_set ?_ GE194.out) | exact HB.out)⟩⟩
      · rw [if_neg c7] at H
        have c7b0 : (a0_1 != a1_1) = false := by simpa using c7
        (try (have c7b1 : decide (a0_1 = a1_1) = true := by simpa using c7))
        (try (have c7b2 : (a0_1 == a1_1) = true := by simpa using c7))
        clear c7
        by_cases c11 : (a0_2 != a1_2) = true
        · rw [if_pos c11] at H
          have c11b0 : (a0_2 != a1_2) = true := c11
          (try (have c11b1 : decide (a0_2 = a1_2) = false := by simpa using c11))
          (try (have c11b2 : (a0_2 == a1_2) = false := by simpa using c11))
          (try (have c11b3 : ¬ (a0_2 = a1_2) := by simpa using c11))
          clear c11
          have H' := Aside0.mk H
          clear H
          have hnb12 := NB193_194.out
          have hnc12 := NB194_193.out
          have hcz13_0 : w5.cell? ⟨gb193, 0, none⟩ = some (.string a0_0) := (blk_cell BK193.out 0).trans rfl
          have hcz13_1 : w5.cell? ⟨gb193, 1, none⟩ = some (.bool a0_1) := (blk_cell BK193.out 1).trans rfl
          have hcz13_2 : w5.cell? ⟨gb193, 2, none⟩ = some (.bool a0_2) := (blk_cell BK193.out 2).trans rfl
          have hcz13_3 : w5.cell? ⟨gb193, 3, none⟩ = some (.slice A0_3 l0_3.length c0_3) := (blk_cell BK193.out 3).trans rfl
          have hfz13_0 := blk_frozen BK193.out 0
          have hfz13_1 := blk_frozen BK193.out 1
          have hfz13_2 := blk_frozen BK193.out 2
          have hfz13_3 := blk_frozen BK193.out 3
          have hcz14_0 : w5.cell? ⟨gb194, 0, none⟩ = some (.string a1_0) := (blk_cell BK194.out 0).trans rfl
          have hcz14_1 : w5.cell? ⟨gb194, 1, none⟩ = some (.bool a1_1) := (blk_cell BK194.out 1).trans rfl
          have hcz14_2 : w5.cell? ⟨gb194, 2, none⟩ = some (.bool a1_2) := (blk_cell BK194.out 2).trans rfl
          have hcz14_3 : w5.cell? ⟨gb194, 3, none⟩ = some (.slice A1_3 l1_3.length c1_3) := (blk_cell BK194.out 3).trans rfl
          have hfz14_0 := blk_frozen BK194.out 0
          have hfz14_1 := blk_frozen BK194.out 1
          have hfz14_2 := blk_frozen BK194.out 2
          have hfz14_3 := blk_frozen BK194.out 3
          go_wp2
          repeat (go_quiet (fail); try go_wp2)
          go_meet
          case rel => exact ⟨_, (true), (by first | rfl | (simp; done) | (simp [*]; done)), H', ⟨by first | omega | exact Nat.le_refl _⟩, ⟨by (with_reducible repeat (first | refine blk_drewN ?_ _ | refine blk_drew ?_ | refine blk_alloc ?_ _)); exact BK193.out⟩, ⟨by (with_reducible repeat (first | refine blk_drewN ?_ _ | refine blk_drew ?_ | refine blk_alloc ?_ _)); exact BK194.out⟩, ⟨by repeat (first | (with_reducible first | exact HB.out | apply below_alloc | apply pw_below_drewN | apply below_drew1 | refine below_set ?_ GE193.out | refine below_set ?_ GE194.out) | exact HB.out)⟩⟩
        · rw [if_neg c11] at H
          have c11b0 : (a0_2 != a1_2) = false := by simpa using c11
          (try (have c11b1 : decide (a0_2 = a1_2) = true := by simpa using c11))
          (try (have c11b2 : (a0_2 == a1_2) = true := by simpa using c11))
          clear c11
          have H' := Aside0.mk H
          clear H
          have hnb15 := NB193_194.out
          have hnc15 := NB194_193.out
          have hcz16_0 : w5.cell? ⟨gb193, 0, none⟩ = some (.string a0_0) := (blk_cell BK193.out 0).trans rfl
          have hcz16_1 : w5.cell? ⟨gb193, 1, none⟩ = some (.bool a0_1) := (blk_cell BK193.out 1).trans rfl
          have hcz16_2 : w5.cell? ⟨gb193, 2, none⟩ = some (.bool a0_2) := (blk_cell BK193.out 2).trans rfl
          have hcz16_3 : w5.cell? ⟨gb193, 3, none⟩ = some (.slice A0_3 l0_3.length c0_3) := (blk_cell BK193.out 3).trans rfl
          have hfz16_0 := blk_frozen BK193.out 0
          have hfz16_1 := blk_frozen BK193.out 1
          have hfz16_2 := blk_frozen BK193.out 2
          have hfz16_3 := blk_frozen BK193.out 3
          have hcz17_0 : w5.cell? ⟨gb194, 0, none⟩ = some (.string a1_0) := (blk_cell BK194.out 0).trans rfl
          have hcz17_1 : w5.cell? ⟨gb194, 1, none⟩ = some (.bool a1_1) := (blk_cell BK194.out 1).trans rfl
          have hcz17_2 : w5.cell? ⟨gb194, 2, none⟩ = some (.bool a1_2) := (blk_cell BK194.out 2).trans rfl
          have hcz17_3 : w5.cell? ⟨gb194, 3, none⟩ = some (.slice A1_3 l1_3.length c1_3) := (blk_cell BK194.out 3).trans rfl
          have hfz17_0 := blk_frozen BK194.out 0
          have hfz17_1 := blk_frozen BK194.out 1
          have hfz17_2 := blk_frozen BK194.out 2
          have hfz17_3 := blk_frozen BK194.out 3
          go_wp2
          repeat (go_quiet (fail); try go_wp2)
          go_meet
          case rel => exact ⟨_, (((l0_3.length : Int) != (l1_3.length : Int))), (by first | rfl | (simp; done) | (simp [*]; done)), H', ⟨by first | omega | exact Nat.le_refl _⟩, ⟨by (with_reducible repeat (first | refine blk_drewN ?_ _ | refine blk_drew ?_ | refine blk_alloc ?_ _)); exact BK193.out⟩, ⟨by (with_reducible repeat (first | refine blk_drewN ?_ _ | refine blk_drew ?_ | refine blk_alloc ?_ _)); exact BK194.out⟩, ⟨by repeat (first | (with_reducible first | exact HB.out | apply below_alloc | apply pw_below_drewN | apply below_drew1 | refine below_set ?_ GE193.out | refine below_set ?_ GE194.out) | exact HB.out)⟩⟩
    · rw [if_neg c6] at H
      have c6b0 : (a0_0.toList == a1_0.toList) = false := beq_eq_false_iff_ne.mpr c6
      have c6b1 : (a0_0.toList != a1_0.toList) = true := bne_iff_ne.mpr c6
      (first | rw [c6b0] | (simp only [i64_w, i32_w]; rw [c6b0]) | skip)
      have H' := Aside0.mk H
      clear H
      have hnb18 := NB193_194.out
      have hnc18 := NB194_193.out
      have hcz19_0 : w5.cell? ⟨gb193, 0, none⟩ = some (.string a0_0) := (blk_cell BK193.out 0).trans rfl
      have hcz19_1 : w5.cell? ⟨gb193, 1, none⟩ = some (.bool a0_1) := (blk_cell BK193.out 1).trans rfl
      have hcz19_2 : w5.cell? ⟨gb193, 2, none⟩ = some (.bool a0_2) := (blk_cell BK193.out 2).trans rfl
      have hcz19_3 : w5.cell? ⟨gb193, 3, none⟩ = some (.slice A0_3 l0_3.length c0_3) := (blk_cell BK193.out 3).trans rfl
      have hfz19_0 := blk_frozen BK193.out 0
      have hfz19_1 := blk_frozen BK193.out 1
      have hfz19_2 := blk_frozen BK193.out 2
      have hfz19_3 := blk_frozen BK193.out 3
      have hcz20_0 : w5.cell? ⟨gb194, 0, none⟩ = some (.string a1_0) := (blk_cell BK194.out 0).trans rfl
      have hcz20_1 : w5.cell? ⟨gb194, 1, none⟩ = some (.bool a1_1) := (blk_cell BK194.out 1).trans rfl
      have hcz20_2 : w5.cell? ⟨gb194, 2, none⟩ = some (.bool a1_2) := (blk_cell BK194.out 2).trans rfl
      have hcz20_3 : w5.cell? ⟨gb194, 3, none⟩ = some (.slice A1_3 l1_3.length c1_3) := (blk_cell BK194.out 3).trans rfl
      have hfz20_0 := blk_frozen BK194.out 0
      have hfz20_1 := blk_frozen BK194.out 1
      have hfz20_2 := blk_frozen BK194.out 2
      have hfz20_3 := blk_frozen BK194.out 3
      go_wp2
      repeat (go_quiet (fail); try go_wp2)
      go_meet
      case rel => exact ⟨_, (true), (by first | rfl | (simp; done) | (simp [*]; done)), H', ⟨by first | omega | exact Nat.le_refl _⟩, ⟨by (with_reducible repeat (first | refine blk_drewN ?_ _ | refine blk_drew ?_ | refine blk_alloc ?_ _)); exact BK193.out⟩, ⟨by (with_reducible repeat (first | refine blk_drewN ?_ _ | refine blk_drew ?_ | refine blk_alloc ?_ _)); exact BK194.out⟩, ⟨by repeat (first | (with_reducible first | exact HB.out | apply below_alloc | apply pw_below_drewN | apply below_drew1 | refine below_set ?_ GE193.out | refine below_set ?_ GE194.out) | exact HB.out)⟩⟩
  case rest =>
    clear HC3
    try clear c1
    try clear p2
    try clear c6
    try clear c6b0
    try clear c6b1
    try clear c7
    try clear c7b0
    try clear c7b1
    try clear c7b2
    try clear c8
    try clear c10
    try clear c11
    try clear c11b0
    try clear c11b1
    try clear c11b2
    try clear c12
    try clear c15
    try clear c18
    try clear hcz10_0
    try clear hcz10_1
    try clear hcz10_2
    try clear hcz10_3
    try clear hcz13_0
    try clear hcz13_1
    try clear hcz13_2
    try clear hcz13_3
    try clear hcz14_0
    try clear hcz14_1
    try clear hcz14_2
    try clear hcz14_3
    try clear hcz16_0
    try clear hcz16_1
    try clear hcz16_2
    try clear hcz16_3
    try clear hcz17_0
    try clear hcz17_1
    try clear hcz17_2
    try clear hcz17_3
    try clear hcz19_0
    try clear hcz19_1
    try clear hcz19_2
    try clear hcz19_3
    try clear hcz20_0
    try clear hcz20_1
    try clear hcz20_2
    try clear hcz20_3
    try clear hcz9_0
    try clear hcz9_1
    try clear hcz9_2
    try clear hcz9_3
    try clear hfz10_0
    try clear hfz10_1
    try clear hfz10_2
    try clear hfz10_3
    try clear hfz13_0
    try clear hfz13_1
    try clear hfz13_2
    try clear hfz13_3
    try clear hfz14_0
    try clear hfz14_1
    try clear hfz14_2
    try clear hfz14_3
    try clear hfz16_0
    try clear hfz16_1
    try clear hfz16_2
    try clear hfz16_3
    try clear hfz17_0
    try clear hfz17_1
    try clear hfz17_2
    try clear hfz17_3
    try clear hfz19_0
    try clear hfz19_1
    try clear hfz19_2
    try clear hfz19_3
    try clear hfz20_0
    try clear hfz20_1
    try clear hfz20_2
    try clear hfz20_3
    try clear hfz9_0
    try clear hfz9_1
    try clear hfz9_2
    try clear hfz9_3
    obtain ⟨kq, x33_2, rfl, HA, HJ2, BK193, BK194, HB⟩ := hcut
    cases kq with
    | zero => exact absurd HA.out (by simp [incipitref21_Same.j0])
    | succ kj2 =>
      have H := HA.out
      clear HA
      simp only [incipitref21_Same.j0] at H
      by_cases c21 : x33_2 = true
      · subst c21
        have H1 : (some false) = some r := by rw [if_pos rfl] at H; exact H
        clear H
        have H := H1
        clear H1
        obtain rfl := Option.some.inj H
        go_wp2
        repeat (go_quiet (fail); try go_wp2)
        go_ret
        exact ⟨by first | rfl | (simp [errW_none, errW_some] <;> rfl) | (simp [*, errW_none, errW_some] <;> rfl), by repeat (first | (with_reducible first | exact HB.out | apply below_alloc | apply pw_below_drewN | apply below_drew1 | refine below_set ?_ GE193.out | refine below_set ?_ GE194.out) | exact HB.out)⟩
      · replace c21 := Bool.eq_false_iff.mpr c21
        subst c21
        have H1 : (incipitref21_Same.l0 kj2 0 a0_0 a0_1 a0_2 l0_3 a1_0 a1_1 a1_2 l1_3) = some r := by rw [if_neg (show ¬ (false = true) by decide)] at H; exact H
        clear H
        have H := H1
        clear H1
        have H' := Aside0.mk H
        clear H
        go_wp2
        repeat (go_quiet (fail); try go_wp2)
        go_loopg [5] kj2 (fun kq v5 w' => ∃ (x5_2 : Int), v5 = .int .i64 x5_2 ∧ Aside0 (incipitref21_Same.l0 kq x5_2 a0_0 a0_1 a0_2 l0_3 a1_0 a1_1 a1_2 l1_3 = some r) ∧ Aside0 (kq ≤ kj2) ∧ Aside0 (w'.heap[gb193]? = some (.cells #[.string a0_0, .bool a0_1, .bool a0_2, (.slice A0_3 l0_3.length c0_3)] 28 (0, 0))) ∧ Aside0 (w'.heap[gb194]? = some (.cells #[.string a1_0, .bool a1_1, .bool a1_2, (.slice A1_3 l1_3.length c1_3)] 28 (0, 0))) ∧ Aside0 (Below w.heap.size w w'))
        case atStart => exact ⟨(0), (by first | rfl | (simp; done) | (simp [*]; done)), H', ⟨Nat.le_refl _⟩, ⟨by (with_reducible repeat (first | refine blk_drewN ?_ _ | refine blk_drew ?_ | refine blk_alloc ?_ _)); exact BK193.out⟩, ⟨by (with_reducible repeat (first | refine blk_drewN ?_ _ | refine blk_drew ?_ | refine blk_alloc ?_ _)); exact BK194.out⟩, ⟨by repeat (first | (with_reducible first | exact HB.out | apply below_alloc | apply pw_below_drewN | apply below_drew1 | refine below_set ?_ GE193.out | refine below_set ?_ GE194.out) | exact HB.out)⟩⟩
        case round =>
          clear H'
          try clear c1
          try clear c2
          try clear p2
          try clear c6
          try clear c6b0
          try clear c6b1
          try clear c7
          try clear c7b0
          try clear c7b1
          try clear c7b2
          try clear c8
          try clear c10
          try clear c11
          try clear c11b0
          try clear c11b1
          try clear c11b2
          try clear c12
          try clear c15
          try clear c18
          try clear c21
          try clear hcz10_0
          try clear hcz10_1
          try clear hcz10_2
          try clear hcz10_3
          try clear hcz13_0
          try clear hcz13_1
          try clear hcz13_2
          try clear hcz13_3
          try clear hcz14_0
          try clear hcz14_1
          try clear hcz14_2
          try clear hcz14_3
          try clear hcz16_0
          try clear hcz16_1
          try clear hcz16_2
          try clear hcz16_3
          try clear hcz17_0
          try clear hcz17_1
          try clear hcz17_2
          try clear hcz17_3
          try clear hcz19_0
          try clear hcz19_1
          try clear hcz19_2
          try clear hcz19_3
          try clear hcz20_0
          try clear hcz20_1
          try clear hcz20_2
          try clear hcz20_3
          try clear hcz9_0
          try clear hcz9_1
          try clear hcz9_2
          try clear hcz9_3
          try clear hfz10_0
          try clear hfz10_1
          try clear hfz10_2
          try clear hfz10_3
          try clear hfz13_0
          try clear hfz13_1
          try clear hfz13_2
          try clear hfz13_3
          try clear hfz14_0
          try clear hfz14_1
          try clear hfz14_2
          try clear hfz14_3
          try clear hfz16_0
          try clear hfz16_1
          try clear hfz16_2
          try clear hfz16_3
          try clear hfz17_0
          try clear hfz17_1
          try clear hfz17_2
          try clear hfz17_3
          try clear hfz19_0
          try clear hfz19_1
          try clear hfz19_2
          try clear hfz19_3
          try clear hfz20_0
          try clear hfz20_1
          try clear hfz20_2
          try clear hfz20_3
          try clear hfz9_0
          try clear hfz9_1
          try clear hfz9_2
          try clear hfz9_3
          try clear p2
          obtain ⟨x5_2, rfl, HA, HK2, BK193, BK194, HB⟩ := hrel
          cases gk with
          | zero => exact absurd HA.out (by simp [incipitref21_Same.l0])
          | succ k2 =>
            have H := HA.out
            clear HA
            simp only [incipitref21_Same.l0] at H
            by_cases c22 : x5_2 < (l0_3.length : Int)
            · rw [if_pos c22] at H
              have c22b0 : decide (x5_2 < (l0_3.length : Int)) = true := decide_eq_true c22
              clear c22
              by_cases c23 : 0 ≤ x5_2
              · rw [if_pos c23] at H
                have c23b0 : decide (0 ≤ x5_2) = true := decide_eq_true c23
                clear c23
                by_cases c24 : x5_2 < (l1_3.length : Int)
                · rw [if_pos c24] at H
                  have c24b0 : decide (x5_2 < (l1_3.length : Int)) = true := decide_eq_true c24
                  clear c24
                  by_cases c25 : ((rd_T45 l0_3 x5_2).f0).toList = ((rd_T45 l1_3 x5_2).f0).toList
                  · rw [if_pos c25] at H
                    have c25b0 : (((rd_T45 l0_3 x5_2).f0).toList == ((rd_T45 l1_3 x5_2).f0).toList) = true := beq_iff_eq.mpr c25
                    have c25b1 : (((rd_T45 l0_3 x5_2).f0).toList != ((rd_T45 l1_3 x5_2).f0).toList) = false := bne_eq_false_iff_eq.mpr c25
                    clear c25
                    by_cases c26 : ((rd_T45 l0_3 x5_2).f1).toList = ((rd_T45 l1_3 x5_2).f1).toList
                    · rw [if_pos c26] at H
                      have c26b0 : (((rd_T45 l0_3 x5_2).f1).toList == ((rd_T45 l1_3 x5_2).f1).toList) = true := beq_iff_eq.mpr c26
                      have c26b1 : (((rd_T45 l0_3 x5_2).f1).toList != ((rd_T45 l1_3 x5_2).f1).toList) = false := bne_eq_false_iff_eq.mpr c26
                      clear c26
                      have H' := Aside0.mk H
                      clear H
                      have hnb27 := NB193_194.out
                      have hnc27 := NB194_193.out
                      have hcz28_0 : wr.cell? ⟨gb193, 0, none⟩ = some (.string a0_0) := (blk_cell BK193.out 0).trans rfl
                      have hcz28_1 : wr.cell? ⟨gb193, 1, none⟩ = some (.bool a0_1) := (blk_cell BK193.out 1).trans rfl
                      have hcz28_2 : wr.cell? ⟨gb193, 2, none⟩ = some (.bool a0_2) := (blk_cell BK193.out 2).trans rfl
                      have hcz28_3 : wr.cell? ⟨gb193, 3, none⟩ = some (.slice A0_3 l0_3.length c0_3) := (blk_cell BK193.out 3).trans rfl
                      have hfz28_0 := blk_frozen BK193.out 0
                      have hfz28_1 := blk_frozen BK193.out 1
                      have hfz28_2 := blk_frozen BK193.out 2
                      have hfz28_3 := blk_frozen BK193.out 3
                      have p195 : 0 ≤ (x5_2 : Int) := of_decide_eq_true (by first | (with_reducible assumption) | assumption)
                      have q195 : x5_2 < (l0_3.length : Int) := of_decide_eq_true (by first | (with_reducible assumption) | assumption)
                      obtain ⟨ad195, e195, hx195_0, hx195_1⟩ := at_T45 HR0_3.out x5_2 p195 q195
                      cases e195
                      replace hx195_0 := (HB.out.cell (World.block_lt_of_cell? w _ hx195_0)).trans hx195_0
                      replace hx195_1 := (HB.out.cell (World.block_lt_of_cell? w _ hx195_1)).trans hx195_1
                      replace p195 := eq_true p195
                      replace q195 := eq_true q195
                      have hcz29_0 : wr.cell? ⟨gb194, 0, none⟩ = some (.string a1_0) := (blk_cell BK194.out 0).trans rfl
                      have hcz29_1 : wr.cell? ⟨gb194, 1, none⟩ = some (.bool a1_1) := (blk_cell BK194.out 1).trans rfl
                      have hcz29_2 : wr.cell? ⟨gb194, 2, none⟩ = some (.bool a1_2) := (blk_cell BK194.out 2).trans rfl
                      have hcz29_3 : wr.cell? ⟨gb194, 3, none⟩ = some (.slice A1_3 l1_3.length c1_3) := (blk_cell BK194.out 3).trans rfl
                      have hfz29_0 := blk_frozen BK194.out 0
                      have hfz29_1 := blk_frozen BK194.out 1
                      have hfz29_2 := blk_frozen BK194.out 2
                      have hfz29_3 := blk_frozen BK194.out 3
                      have p196 : 0 ≤ (x5_2 : Int) := of_decide_eq_true (by first | (with_reducible assumption) | assumption)
                      have q196 : x5_2 < (l1_3.length : Int) := of_decide_eq_true (by first | (with_reducible assumption) | assumption)
                      obtain ⟨ad196, e196, hx196_0, hx196_1⟩ := at_T45 HR1_3.out x5_2 p196 q196
                      cases e196
                      replace hx196_0 := (HB.out.cell (World.block_lt_of_cell? w _ hx196_0)).trans hx196_0
                      replace hx196_1 := (HB.out.cell (World.block_lt_of_cell? w _ hx196_1)).trans hx196_1
                      replace p196 := eq_true p196
                      replace q196 := eq_true q196
                      have p197 : 0 ≤ (x5_2 : Int) := of_decide_eq_true (by first | (with_reducible assumption) | assumption)
                      have q197 : x5_2 < (l0_3.length : Int) := of_decide_eq_true (by first | (with_reducible assumption) | assumption)
                      obtain ⟨ad197, e197, hx197_0, hx197_1⟩ := at_T45 HR0_3.out x5_2 p197 q197
                      obtain rfl : ad195 = ad197 := (by injection e197)
                      replace hx197_0 := (HB.out.cell (World.block_lt_of_cell? w _ hx197_0)).trans hx197_0
                      replace hx197_1 := (HB.out.cell (World.block_lt_of_cell? w _ hx197_1)).trans hx197_1
                      replace p197 := eq_true p197
                      replace q197 := eq_true q197
                      have p198 : 0 ≤ (x5_2 : Int) := of_decide_eq_true (by first | (with_reducible assumption) | assumption)
                      have q198 : x5_2 < (l1_3.length : Int) := of_decide_eq_true (by first | (with_reducible assumption) | assumption)
                      obtain ⟨ad198, e198, hx198_0, hx198_1⟩ := at_T45 HR1_3.out x5_2 p198 q198
                      obtain rfl : ad196 = ad198 := (by injection e198)
                      replace hx198_0 := (HB.out.cell (World.block_lt_of_cell? w _ hx198_0)).trans hx198_0
                      replace hx198_1 := (HB.out.cell (World.block_lt_of_cell? w _ hx198_1)).trans hx198_1
                      replace p198 := eq_true p198
                      replace q198 := eq_true q198
                      go_wp2
                      repeat (go_quiet (fail); try go_wp2)
                      go_roundg k2
                      case measure => have := HJ2.out; have := HK2.out; omega
                      case rel => exact ⟨(wrap64 (x5_2 + 1)), (by first | rfl | (simp; done) | (simp [*]; done)), H', ⟨by have := HJ2.out; have := HK2.out; omega⟩, ⟨by (with_reducible repeat (first | refine blk_drewN ?_ _ | refine blk_drew ?_ | refine blk_alloc ?_ _)); exact BK193.out⟩, ⟨by (with_reducible repeat (first | refine blk_drewN ?_ _ | refine blk_drew ?_ | refine blk_alloc ?_ _)); exact BK194.out⟩, ⟨by repeat (first | (with_reducible first | exact HB.out | apply below_alloc | apply pw_below_drewN | apply below_drew1 | refine below_set ?_ GE193.out | refine below_set ?_ GE194.out) | exact HB.out)⟩⟩
                    · rw [if_neg c26] at H
                      have c26b0 : (((rd_T45 l0_3 x5_2).f1).toList == ((rd_T45 l1_3 x5_2).f1).toList) = false := beq_eq_false_iff_ne.mpr c26
                      have c26b1 : (((rd_T45 l0_3 x5_2).f1).toList != ((rd_T45 l1_3 x5_2).f1).toList) = true := bne_iff_ne.mpr c26
                      obtain rfl := Option.some.inj H
                      have hnb30 := NB193_194.out
                      have hnc30 := NB194_193.out
                      have hcz31_0 : wr.cell? ⟨gb193, 0, none⟩ = some (.string a0_0) := (blk_cell BK193.out 0).trans rfl
                      have hcz31_1 : wr.cell? ⟨gb193, 1, none⟩ = some (.bool a0_1) := (blk_cell BK193.out 1).trans rfl
                      have hcz31_2 : wr.cell? ⟨gb193, 2, none⟩ = some (.bool a0_2) := (blk_cell BK193.out 2).trans rfl
                      have hcz31_3 : wr.cell? ⟨gb193, 3, none⟩ = some (.slice A0_3 l0_3.length c0_3) := (blk_cell BK193.out 3).trans rfl
                      have hfz31_0 := blk_frozen BK193.out 0
                      have hfz31_1 := blk_frozen BK193.out 1
                      have hfz31_2 := blk_frozen BK193.out 2
                      have hfz31_3 := blk_frozen BK193.out 3
                      have p195 : 0 ≤ (x5_2 : Int) := of_decide_eq_true (by first | (with_reducible assumption) | assumption)
                      have q195 : x5_2 < (l0_3.length : Int) := of_decide_eq_true (by first | (with_reducible assumption) | assumption)
                      obtain ⟨ad195, e195, hx195_0, hx195_1⟩ := at_T45 HR0_3.out x5_2 p195 q195
                      cases e195
                      replace hx195_0 := (HB.out.cell (World.block_lt_of_cell? w _ hx195_0)).trans hx195_0
                      replace hx195_1 := (HB.out.cell (World.block_lt_of_cell? w _ hx195_1)).trans hx195_1
                      replace p195 := eq_true p195
                      replace q195 := eq_true q195
                      have hcz32_0 : wr.cell? ⟨gb194, 0, none⟩ = some (.string a1_0) := (blk_cell BK194.out 0).trans rfl
                      have hcz32_1 : wr.cell? ⟨gb194, 1, none⟩ = some (.bool a1_1) := (blk_cell BK194.out 1).trans rfl
                      have hcz32_2 : wr.cell? ⟨gb194, 2, none⟩ = some (.bool a1_2) := (blk_cell BK194.out 2).trans rfl
                      have hcz32_3 : wr.cell? ⟨gb194, 3, none⟩ = some (.slice A1_3 l1_3.length c1_3) := (blk_cell BK194.out 3).trans rfl
                      have hfz32_0 := blk_frozen BK194.out 0
                      have hfz32_1 := blk_frozen BK194.out 1
                      have hfz32_2 := blk_frozen BK194.out 2
                      have hfz32_3 := blk_frozen BK194.out 3
                      have p196 : 0 ≤ (x5_2 : Int) := of_decide_eq_true (by first | (with_reducible assumption) | assumption)
                      have q196 : x5_2 < (l1_3.length : Int) := of_decide_eq_true (by first | (with_reducible assumption) | assumption)
                      obtain ⟨ad196, e196, hx196_0, hx196_1⟩ := at_T45 HR1_3.out x5_2 p196 q196
                      cases e196
                      replace hx196_0 := (HB.out.cell (World.block_lt_of_cell? w _ hx196_0)).trans hx196_0
                      replace hx196_1 := (HB.out.cell (World.block_lt_of_cell? w _ hx196_1)).trans hx196_1
                      replace p196 := eq_true p196
                      replace q196 := eq_true q196
                      have p197 : 0 ≤ (x5_2 : Int) := of_decide_eq_true (by first | (with_reducible assumption) | assumption)
                      have q197 : x5_2 < (l0_3.length : Int) := of_decide_eq_true (by first | (with_reducible assumption) | assumption)
                      obtain ⟨ad197, e197, hx197_0, hx197_1⟩ := at_T45 HR0_3.out x5_2 p197 q197
                      obtain rfl : ad195 = ad197 := (by injection e197)
                      replace hx197_0 := (HB.out.cell (World.block_lt_of_cell? w _ hx197_0)).trans hx197_0
                      replace hx197_1 := (HB.out.cell (World.block_lt_of_cell? w _ hx197_1)).trans hx197_1
                      replace p197 := eq_true p197
                      replace q197 := eq_true q197
                      have p198 : 0 ≤ (x5_2 : Int) := of_decide_eq_true (by first | (with_reducible assumption) | assumption)
                      have q198 : x5_2 < (l1_3.length : Int) := of_decide_eq_true (by first | (with_reducible assumption) | assumption)
                      obtain ⟨ad198, e198, hx198_0, hx198_1⟩ := at_T45 HR1_3.out x5_2 p198 q198
                      obtain rfl : ad196 = ad198 := (by injection e198)
                      replace hx198_0 := (HB.out.cell (World.block_lt_of_cell? w _ hx198_0)).trans hx198_0
                      replace hx198_1 := (HB.out.cell (World.block_lt_of_cell? w _ hx198_1)).trans hx198_1
                      replace p198 := eq_true p198
                      replace q198 := eq_true q198
                      go_wp2
                      repeat (go_quiet (fail); try go_wp2)
                      go_ret
                      exact ⟨by first | rfl | (simp [errW_none, errW_some] <;> rfl) | (simp [*, errW_none, errW_some] <;> rfl), by repeat (first | (with_reducible first | exact HB.out | apply below_alloc | apply pw_below_drewN | apply below_drew1 | refine below_set ?_ GE193.out | refine below_set ?_ GE194.out) | exact HB.out)⟩
                  · rw [if_neg c25] at H
                    have c25b0 : (((rd_T45 l0_3 x5_2).f0).toList == ((rd_T45 l1_3 x5_2).f0).toList) = false := beq_eq_false_iff_ne.mpr c25
                    have c25b1 : (((rd_T45 l0_3 x5_2).f0).toList != ((rd_T45 l1_3 x5_2).f0).toList) = true := bne_iff_ne.mpr c25
                    obtain rfl := Option.some.inj H
                    have hnb33 := NB193_194.out
                    have hnc33 := NB194_193.out
                    have hcz34_0 : wr.cell? ⟨gb193, 0, none⟩ = some (.string a0_0) := (blk_cell BK193.out 0).trans rfl
                    have hcz34_1 : wr.cell? ⟨gb193, 1, none⟩ = some (.bool a0_1) := (blk_cell BK193.out 1).trans rfl
                    have hcz34_2 : wr.cell? ⟨gb193, 2, none⟩ = some (.bool a0_2) := (blk_cell BK193.out 2).trans rfl
                    have hcz34_3 : wr.cell? ⟨gb193, 3, none⟩ = some (.slice A0_3 l0_3.length c0_3) := (blk_cell BK193.out 3).trans rfl
                    have hfz34_0 := blk_frozen BK193.out 0
                    have hfz34_1 := blk_frozen BK193.out 1
                    have hfz34_2 := blk_frozen BK193.out 2
                    have hfz34_3 := blk_frozen BK193.out 3
                    have p195 : 0 ≤ (x5_2 : Int) := of_decide_eq_true (by first | (with_reducible assumption) | assumption)
                    have q195 : x5_2 < (l0_3.length : Int) := of_decide_eq_true (by first | (with_reducible assumption) | assumption)
                    obtain ⟨ad195, e195, hx195_0, hx195_1⟩ := at_T45 HR0_3.out x5_2 p195 q195
                    cases e195
                    replace hx195_0 := (HB.out.cell (World.block_lt_of_cell? w _ hx195_0)).trans hx195_0
                    replace hx195_1 := (HB.out.cell (World.block_lt_of_cell? w _ hx195_1)).trans hx195_1
                    replace p195 := eq_true p195
                    replace q195 := eq_true q195
                    have hcz35_0 : wr.cell? ⟨gb194, 0, none⟩ = some (.string a1_0) := (blk_cell BK194.out 0).trans rfl
                    have hcz35_1 : wr.cell? ⟨gb194, 1, none⟩ = some (.bool a1_1) := (blk_cell BK194.out 1).trans rfl
                    have hcz35_2 : wr.cell? ⟨gb194, 2, none⟩ = some (.bool a1_2) := (blk_cell BK194.out 2).trans rfl
                    have hcz35_3 : wr.cell? ⟨gb194, 3, none⟩ = some (.slice A1_3 l1_3.length c1_3) := (blk_cell BK194.out 3).trans rfl
                    have hfz35_0 := blk_frozen BK194.out 0
                    have hfz35_1 := blk_frozen BK194.out 1
                    have hfz35_2 := blk_frozen BK194.out 2
                    have hfz35_3 := blk_frozen BK194.out 3
                    have p196 : 0 ≤ (x5_2 : Int) := of_decide_eq_true (by first | (with_reducible assumption) | assumption)
                    have q196 : x5_2 < (l1_3.length : Int) := of_decide_eq_true (by first | (with_reducible assumption) | assumption)
                    obtain ⟨ad196, e196, hx196_0, hx196_1⟩ := at_T45 HR1_3.out x5_2 p196 q196
                    cases e196
                    replace hx196_0 := (HB.out.cell (World.block_lt_of_cell? w _ hx196_0)).trans hx196_0
                    replace hx196_1 := (HB.out.cell (World.block_lt_of_cell? w _ hx196_1)).trans hx196_1
                    replace p196 := eq_true p196
                    replace q196 := eq_true q196
                    go_wp2
                    repeat (go_quiet (fail); try go_wp2)
                    go_ret
                    exact ⟨by first | rfl | (simp [errW_none, errW_some] <;> rfl) | (simp [*, errW_none, errW_some] <;> rfl), by repeat (first | (with_reducible first | exact HB.out | apply below_alloc | apply pw_below_drewN | apply below_drew1 | refine below_set ?_ GE193.out | refine below_set ?_ GE194.out) | exact HB.out)⟩
                · rw [if_neg c24] at H
                  exact absurd H (by simp)
              · rw [if_neg c23] at H
                exact absurd H (by simp)
            · rw [if_neg c22] at H
              have c22b0 : decide (x5_2 < (l0_3.length : Int)) = false := decide_eq_false c22
              clear c22
              obtain rfl := Option.some.inj H
              have hnb36 := NB193_194.out
              have hnc36 := NB194_193.out
              have hcz37_0 : wr.cell? ⟨gb193, 0, none⟩ = some (.string a0_0) := (blk_cell BK193.out 0).trans rfl
              have hcz37_1 : wr.cell? ⟨gb193, 1, none⟩ = some (.bool a0_1) := (blk_cell BK193.out 1).trans rfl
              have hcz37_2 : wr.cell? ⟨gb193, 2, none⟩ = some (.bool a0_2) := (blk_cell BK193.out 2).trans rfl
              have hcz37_3 : wr.cell? ⟨gb193, 3, none⟩ = some (.slice A0_3 l0_3.length c0_3) := (blk_cell BK193.out 3).trans rfl
              have hfz37_0 := blk_frozen BK193.out 0
              have hfz37_1 := blk_frozen BK193.out 1
              have hfz37_2 := blk_frozen BK193.out 2
              have hfz37_3 := blk_frozen BK193.out 3
              go_wp2
              repeat (go_quiet (fail); try go_wp2)
              go_ret
              exact ⟨by first | rfl | (simp [errW_none, errW_some] <;> rfl) | (simp [*, errW_none, errW_some] <;> rfl), by repeat (first | (with_reducible first | exact HB.out | apply below_alloc | apply pw_below_drewN | apply below_drew1 | refine below_set ?_ GE193.out | refine below_set ?_ GE194.out) | exact HB.out)⟩

/-! ### incipitlaw21_theirs: function 11 -/
def incipitlaw21_theirs.f (a0_0 : ByteArray) (a0_1 : Bool) (a0_2 : Bool) (l0_3 : List (S45)) : Option (ByteArray × Bool × Bool × (List (S45))) := some (a0_0, a0_1, a0_2, l0_3)
set_option maxHeartbeats 8000000 in
set_option maxRecDepth 100000 in
theorem incipitlaw21_theirs.calls (a0_0 : ByteArray) (a0_1 : Bool) (a0_2 : Bool) (P0_3_ : Nat → Prop) (u9000_ : Value) (l0_3 : List (S45)) (r1 : ByteArray) (r2 : Bool) (r3 : Bool) (r4 : List (S45)) (w0 w : World) (hB : Below w0.heap.size w0 w) (ho0_3 : Kd.R k45 45 w w0.heap.size P0_3_ u9000_ l0_3) (h : incipitlaw21_theirs.f a0_0 a0_1 a0_2 l0_3 = some (r1, r2, r3, r4)) :
    Calls Try.prog 11 #[.agg #[.string a0_0, .bool a0_1, .bool a0_2, u9000_]] w fun e w' => ∃ v3_ : Value, e = .returned (.agg #[.string r1, .bool r2, .bool r3, v3_]) ∧ Kd.R k45 45 w' w0.heap.size (fun k_ => (P0_3_ k_ ∨ w.heap.size ≤ k_)) v3_ r4 ∧ Below w0.heap.size w0 w' ∧ Kept w w' (fun k_ => P0_3_ k_) := by
  have hu25 := Try.underlying25
  have hu28 := Try.underlying28
  have HO0_3 := Aside0.mk (show Kd.R k45 45 w w0.heap.size (fun k_ => (P0_3_ k_ ∨ w.heap.size ≤ k_)) u9000_ l0_3 from Kd.R_mono ho0_3 (fun k_ hk => (.inl hk)))
  have HK := Aside0.mk (Kept.refl w (fun k_ => P0_3_ k_))
  have HW0 := Aside0.mk hB.size
  have HB := Aside0.mk hB
  clear hB
  have H : (some (a0_0, a0_1, a0_2, l0_3)) = some (r1, r2, r3, r4) := h
  clear h
  simp only [Option.some.injEq, Prod.mk.injEq] at H
  obtain ⟨rfl, rfl, rfl, rfl⟩ := H
  obtain ⟨Ao2, co2, eo2⟩ := Kd.R_slice HO0_3.out
  subst eo2
  go_enter Try.func11, Try.ntmps11
  go_wp2_with (first | ((with_reducible refine gate_dst (N := 1) rfl ?_); refine box_event ?hg (N := 1) ?hd (cs := #[.string a0_0, .bool a0_1, .bool a0_2, .slice Ao2 l0_3.length co2]) (t := 25) ?hr ?_; (case hd => rfl); (case hg => rfl); (case hr => first | (go_simp; done) | (go_simp; rfl)); intro gb199 hg w3 hbox hb; have n0_ := Aside0.mk (Kd.R_below (by (with_reducible repeat (first | apply Kd.R_alloc | apply Kd.R_drewN | apply Kd.R_drew)); exact HO0_3.out) hb); have n1_ := Aside0.mk (Kept.below (S := (fun k_ => P0_3_ k_)) (by repeat (first | (with_reducible first | exact HK.out | apply Kept.alloc | apply Kept.drewN | apply Kept.drew) | exact HK.out)) hb); have n2_ := Aside0.mk (below_step (by repeat (first | (with_reducible first | exact HB.out | apply below_alloc | apply pw_below_drewN | apply below_drew1) | exact HB.out)) hb); have n3_ := Aside0.mk (hbox); have n4_ := Aside0.mk ((by rw [hg]; exact (by first | exact HK.out.1 | exact (show Kept w _ (fun k_ => P0_3_ k_) from by repeat (first | (with_reducible first | exact HK.out | apply Kept.alloc | apply Kept.drewN | apply Kept.drew) | exact HK.out)).1) : w.heap.size ≤ gb199)); have n5_ := Aside0.mk ((by rw [hg]; exact (below_size (by repeat (first | (with_reducible first | exact HB.out | apply below_alloc | apply pw_below_drewN | apply below_drew1) | exact HB.out))) : w0.heap.size ≤ gb199)); clear HO0_3; clear HK; clear HB; have HO0_3 := n0_; have HK := n1_; have HB := n2_; have BK199 := n3_; have GW199 := n4_; have GE199 := n5_; clear n0_ n1_ n2_ n3_ n4_ n5_; clear hb hbox hg) | ((with_reducible refine gate_dst (N := 2) rfl ?_); refine box_event ?hg (N := 2) ?hd (cs := #[.string (⟨#[]⟩ : ByteArray), .bool false, .bool false, .slice none 0 0]) (t := 28) ?hr ?_; (case hd => rfl); (case hg => rfl); (case hr => first | (go_simp; done) | (go_simp; rfl)); intro gb200 hg w4 hbox hb; have n0_ := Aside0.mk (Kd.R_below (by (with_reducible repeat (first | apply Kd.R_alloc | apply Kd.R_drewN | apply Kd.R_drew)); exact HO0_3.out) hb); have n1_ := Aside0.mk (blk_below (g := gb199) (o := .cells #[.string a0_0, .bool a0_1, .bool a0_2, .slice Ao2 l0_3.length co2] 25 (0, 0)) (by (with_reducible repeat (first | refine blk_drewN ?_ _ | refine blk_drew ?_ | refine blk_alloc ?_ _)); exact BK199.out) hb); have n2_ := Aside0.mk (Kept.below (S := (fun k_ => P0_3_ k_)) (by repeat (first | (with_reducible first | exact HK.out | apply Kept.alloc | apply Kept.drewN | apply Kept.drew | refine Kept.setCell ?_ (.inr GW199.out) _) | exact HK.out)) hb); have n3_ := Aside0.mk (below_step (by repeat (first | (with_reducible first | exact HB.out | apply below_alloc | apply pw_below_drewN | apply below_drew1 | refine below_set ?_ GE199.out) | exact HB.out)) hb); have n4_ := Aside0.mk (hbox); have n5_ := Aside0.mk ((by rw [hg]; exact (by first | exact HK.out.1 | exact (show Kept w _ (fun k_ => P0_3_ k_) from by repeat (first | (with_reducible first | exact HK.out | apply Kept.alloc | apply Kept.drewN | apply Kept.drew | refine Kept.setCell ?_ (.inr GW199.out) _) | exact HK.out)).1) : w.heap.size ≤ gb200)); have n6_ := Aside0.mk ((by rw [hg]; exact (below_size (by repeat (first | (with_reducible first | exact HB.out | apply below_alloc | apply pw_below_drewN | apply below_drew1 | refine below_set ?_ GE199.out) | exact HB.out))) : w0.heap.size ≤ gb200)); have n7_ := Aside0.mk ((by rw [hg]; exact Nat.ne_of_lt (blk_lt (g := gb199) (o := .cells #[.string a0_0, .bool a0_1, .bool a0_2, .slice Ao2 l0_3.length co2] 25 (0, 0)) (by (with_reducible repeat (first | refine blk_drewN ?_ _ | refine blk_drew ?_ | refine blk_alloc ?_ _)); exact BK199.out)) : gb199 ≠ gb200)); have n8_ := Aside0.mk ((by rw [hg]; exact Nat.ne_of_gt (blk_lt (g := gb199) (o := .cells #[.string a0_0, .bool a0_1, .bool a0_2, .slice Ao2 l0_3.length co2] 25 (0, 0)) (by (with_reducible repeat (first | refine blk_drewN ?_ _ | refine blk_drew ?_ | refine blk_alloc ?_ _)); exact BK199.out)) : gb200 ≠ gb199)); clear HO0_3; clear BK199; clear HK; clear HB; have HO0_3 := n0_; have BK199 := n1_; have HK := n2_; have HB := n3_; have BK200 := n4_; have GW200 := n5_; have GE200 := n6_; have NB199_200 := n7_; have NB200_199 := n8_; clear n0_ n1_ n2_ n3_ n4_ n5_ n6_ n7_ n8_; clear hb hbox hg; have hnb5 := NB199_200.out; have hnc5 := NB200_199.out; have hcz6_0 : w4.cell? ⟨gb199, 0, none⟩ = some (.string a0_0) := (blk_cell BK199.out 0).trans rfl; have hcz6_1 : w4.cell? ⟨gb199, 1, none⟩ = some (.bool a0_1) := (blk_cell BK199.out 1).trans rfl; have hcz6_2 : w4.cell? ⟨gb199, 2, none⟩ = some (.bool a0_2) := (blk_cell BK199.out 2).trans rfl; have hcz6_3 : w4.cell? ⟨gb199, 3, none⟩ = some (.slice Ao2 l0_3.length co2) := (blk_cell BK199.out 3).trans rfl; have hfz6_0 := blk_frozen BK199.out 0; have hfz6_1 := blk_frozen BK199.out 1; have hfz6_2 := blk_frozen BK199.out 2; have hfz6_3 := blk_frozen BK199.out 3; have hcz7_0 : w4.cell? ⟨gb200, 0, none⟩ = some (.string (⟨#[]⟩ : ByteArray)) := (blk_cell BK200.out 0).trans rfl; have hcz7_1 : w4.cell? ⟨gb200, 1, none⟩ = some (.bool false) := (blk_cell BK200.out 1).trans rfl; have hcz7_2 : w4.cell? ⟨gb200, 2, none⟩ = some (.bool false) := (blk_cell BK200.out 2).trans rfl; have hcz7_3 : w4.cell? ⟨gb200, 3, none⟩ = some (.slice none 0 0) := (blk_cell BK200.out 3).trans rfl; have hfz7_0 := blk_frozen BK200.out 0; have hfz7_1 := blk_frozen BK200.out 1; have hfz7_2 := blk_frozen BK200.out 2; have hfz7_3 := blk_frozen BK200.out 3))
  refine bodyPost_ret (results_cell_row rfl _ _ gb200 28 #[.string a0_0, .bool a0_1, .bool a0_2, .slice Ao2 l0_3.length co2] (0, 0) _ rfl (by (with_reducible repeat (first | refine blk_drewN ?_ _ | refine blk_drew ?_ | refine blk_alloc ?_ _)); refine blk_put (cs := #[.string a0_0, .bool a0_1, .bool a0_2, .slice none 0 0]) ?_ 3 _ rfl; (with_reducible repeat (first | refine blk_drewN ?_ _ | refine blk_drew ?_ | refine blk_alloc ?_ _)); refine blk_put (cs := #[.string a0_0, .bool a0_1, .bool false, .slice none 0 0]) ?_ 2 _ rfl; (with_reducible repeat (first | refine blk_drewN ?_ _ | refine blk_drew ?_ | refine blk_alloc ?_ _)); refine blk_put (cs := #[.string a0_0, .bool false, .bool false, .slice none 0 0]) ?_ 1 _ rfl; (with_reducible repeat (first | refine blk_drewN ?_ _ | refine blk_drew ?_ | refine blk_alloc ?_ _)); refine blk_put (cs := #[.string (⟨#[]⟩ : ByteArray), .bool false, .bool false, .slice none 0 0]) ?_ 0 _ rfl; (with_reducible repeat (first | refine blk_drewN ?_ _ | refine blk_drew ?_ | refine blk_alloc ?_ _)); exact BK200.out) Try.underlying28 rfl (by kernel_rfl)) rfl ?_
  exact ⟨_, by first | rfl | (simp [errW_none, errW_some] <;> rfl) | (simp [*, errW_none, errW_some] <;> rfl), by (with_reducible repeat (first | apply Kd.R_alloc | apply Kd.R_drewN | apply Kd.R_drew)); exact Kd.R_mono (Kd.R_far (p := ⟨gb200, 3, none⟩) (Kd.R_far (p := ⟨gb200, 2, none⟩) (Kd.R_far (p := ⟨gb200, 1, none⟩) (Kd.R_far (p := ⟨gb200, 0, none⟩) (Kd.R_types HO0_3.out BK200.out (by decide)) (fun _ hk => hk.2) (.string a0_0)) (fun _ hk => hk.2) (.bool a0_1)) (fun _ hk => hk.2) (.bool a0_2)) (fun _ hk => hk.2) (.slice Ao2 l0_3.length co2)) (fun _ hk => hk.1), by repeat (first | (with_reducible first | exact HB.out | apply below_alloc | apply pw_below_drewN | apply below_drew1 | refine below_set ?_ GE199.out | refine below_set ?_ GE200.out) | exact HB.out), by repeat (first | (with_reducible first | exact HK.out | apply Kept.alloc | apply Kept.drewN | apply Kept.drew | refine Kept.setCell ?_ (.inr GW199.out) _ | refine Kept.setCell ?_ (.inr GW200.out) _) | exact HK.out)⟩

end Go.Proofs.Ytjcfjgcnkbbgmaa.PA
