/-
  The law AutoWell holds: for every input it answers true, its arguments read behind the call as before. Conditions: the listed package-level variables as the program's text lays them (tied by the card).
-/
import Derived.Test.YtddmddlaamcpiaaDoorSAutoWell1
import Derived.Test.YtddmddlaamcpiaaDoorSAutoWell4
import Derived.Test.YtddmddlaamcpiaaDoorSAutoWell2
set_option linter.unusedVariables false
namespace Go.Proofs.YtddmddlaamcpiaaDoor.PA
open Go.RowKit Go.Proofs.YtddmddlaamcpiaaDoorW.PrintWords Go.Proofs.YtddmddlaamcpiaaDoorW.PrintLast Go.Proofs.YtddmddlaamcpiaaDoorW.PrintMore
attribute [local go_sem] max2_int min2_int max_two min_two max_three min_three max_four min_four   -- for this text's walks alone
set_option linter.unusedVariables false
set_option linter.unusedSimpArgs false

/-! ### incipitref06_Well: function 11 -/
def incipitref06_Well.f (k : Nat) (a0_0 : Int) (a0_1 : ByteArray) (a0_2 : ByteArray) (a0_3 : Int) (a0_4 : Int) (a0_5 : Bool) (l0_6 : List (S31)) : Option (Bool) := if a0_0 = 1 then ((incipitref06_well.f k a0_0 a0_1 a0_2 a0_3 a0_4 a0_5 l0_6 false).bind fun t209 => (some t209)) else (some false)
set_option maxHeartbeats 8000000 in
set_option maxRecDepth 100000 in
theorem incipitref06_Well.calls (k : Nat) (a0_0 : Int) (a0_1 : ByteArray) (a0_2 : ByteArray) (a0_3 : Int) (a0_4 : Int) (a0_5 : Bool) (A0_6 : Option Addr) (c0_6 : Nat) (l0_6 : List (S31)) (r : Bool) (w : World) (hr0_6 : Kd.C k31 w A0_6 l0_6.length l0_6) (hc0_6 : l0_6.length ≤ c0_6) (h : incipitref06_Well.f k a0_0 a0_1 a0_2 a0_3 a0_4 a0_5 l0_6 = some r) :
    Calls Tryd.prog 11 #[.agg #[.int .i64 a0_0, .string a0_1, .string a0_2, .int .i64 a0_3, .int .i64 a0_4, .bool a0_5, .slice A0_6 l0_6.length c0_6]] w fun e w' => e = .returned (.bool r) ∧ Below w.heap.size w w' := by
  have hu31 := Tryd.underlying31
  have HR0_6 := Aside0.mk hr0_6
  have HC0_6 := Aside0.mk hc0_6
  clear hr0_6 hc0_6
  have HB := Aside0.mk (Below.refl w.heap.size w)
  have H : (if a0_0 = 1 then ((incipitref06_well.f k a0_0 a0_1 a0_2 a0_3 a0_4 a0_5 l0_6 false).bind fun t209 => (some t209)) else (some false)) = some r := h
  clear h
  by_cases c2 : a0_0 = 1
  · rw [if_pos c2] at H
    have c2b0 : (a0_0 == 1) = true := beq_iff_eq.mpr c2
    have c2b1 : (a0_0 != 1) = false := bne_eq_false_iff_eq.mpr c2
    clear c2
    replace H := Option.bind_eq_some_iff.mp H
    obtain ⟨t209, A30, H⟩ := H
    replace H : (some t209) = some r := H
    have A3 := Aside0.mk A30
    clear A30
    obtain rfl := Option.some.inj H
    go_enter Tryd.func11, Tryd.ntmps11
    go_wp2_with (first | ((with_reducible refine gate_dst (N := 1) rfl ?_); refine box_event ?hg (N := 1) ?hd (cs := #[.int .i64 a0_0, .string a0_1, .string a0_2, .int .i64 a0_3, .int .i64 a0_4, .bool a0_5, .slice A0_6 l0_6.length c0_6]) (t := 31) ?hr ?_; (case hd => rfl); (case hg => rfl); (case hr => first | (go_simp; done) | (go_simp; rfl)); intro gb208 hg w4 hbox hb; have n0_ := Aside0.mk (below_step (by repeat (first | (with_reducible first | exact HB.out | apply below_alloc | apply pw_below_drewN | apply below_drew1) | exact HB.out)) hb); have n1_ := Aside0.mk (hbox); have n2_ := Aside0.mk ((by rw [hg]; exact (below_size (by repeat (first | (with_reducible first | exact HB.out | apply below_alloc | apply pw_below_drewN | apply below_drew1) | exact HB.out))) : w.heap.size ≤ gb208)); have n3_ := Aside0.mk ((by rw [hg]; exact (below_size (by repeat (first | (with_reducible first | exact HB.out | apply below_alloc | apply pw_below_drewN | apply below_drew1) | exact HB.out))) : w.heap.size ≤ gb208)); clear HB; have HB := n0_; have BK208 := n1_; have GW208 := n2_; have GE208 := n3_; clear n0_ n1_ n2_ n3_; clear hb hbox hg; have hcz5_0 : w4.cell? ⟨gb208, 0, none⟩ = some (.int .i64 a0_0) := (blk_cell BK208.out 0).trans rfl; have hcz5_1 : w4.cell? ⟨gb208, 1, none⟩ = some (.string a0_1) := (blk_cell BK208.out 1).trans rfl; have hcz5_2 : w4.cell? ⟨gb208, 2, none⟩ = some (.string a0_2) := (blk_cell BK208.out 2).trans rfl; have hcz5_3 : w4.cell? ⟨gb208, 3, none⟩ = some (.int .i64 a0_3) := (blk_cell BK208.out 3).trans rfl; have hcz5_4 : w4.cell? ⟨gb208, 4, none⟩ = some (.int .i64 a0_4) := (blk_cell BK208.out 4).trans rfl; have hcz5_5 : w4.cell? ⟨gb208, 5, none⟩ = some (.bool a0_5) := (blk_cell BK208.out 5).trans rfl; have hcz5_6 : w4.cell? ⟨gb208, 6, none⟩ = some (.slice A0_6 l0_6.length c0_6) := (blk_cell BK208.out 6).trans rfl; have hfz5_0 := blk_frozen BK208.out 0; have hfz5_1 := blk_frozen BK208.out 1; have hfz5_2 := blk_frozen BK208.out 2; have hfz5_3 := blk_frozen BK208.out 3; have hfz5_4 := blk_frozen BK208.out 4; have hfz5_5 := blk_frozen BK208.out 5; have hfz5_6 := blk_frozen BK208.out 6) | (go_at_call 16; (with_reducible refine (incipitref06_well.calls k a0_0 a0_1 a0_2 a0_3 a0_4 a0_5 _ _ l0_6 false t209 _ ?side1 ?side2 A3.out).mono ?_); (case side1 => repeat (first | exact (Kd.C_below HR0_6.out HB.out) | (with_reducible refine Kd.C_alloc ?_ _) | (with_reducible refine Kd.C_drewN ?_ _) | (with_reducible refine Kd.C_drew ?_))); (case side2 => exact HC0_6.out); rintro e w6 ⟨rfl, hb⟩; have n0_ := Aside0.mk (blk_below (g := gb208) (o := .cells #[.int .i64 a0_0, .string a0_1, .string a0_2, .int .i64 a0_3, .int .i64 a0_4, .bool a0_5, .slice A0_6 l0_6.length c0_6] 31 (0, 0)) (by (with_reducible repeat (first | refine blk_drewN ?_ _ | refine blk_drew ?_ | refine blk_alloc ?_ _)); exact BK208.out) hb); have n1_ := Aside0.mk (below_step (by repeat (first | (with_reducible first | exact HB.out | apply below_alloc | apply pw_below_drewN | apply below_drew1 | refine below_set ?_ GE208.out) | exact HB.out)) hb); clear BK208; clear HB; have BK208 := n0_; have HB := n1_; clear n0_ n1_; (try clear hb); (try clear hb2); (try clear hk); (try clear hi)))
    go_ret
    exact ⟨by first | rfl | (simp [errW_none, errW_some] <;> rfl) | (simp [*, errW_none, errW_some] <;> rfl), by repeat (first | (with_reducible first | exact HB.out | apply below_alloc | apply pw_below_drewN | apply below_drew1 | refine below_set ?_ GE208.out) | exact HB.out)⟩
  · rw [if_neg c2] at H
    have c2b0 : (a0_0 == 1) = false := beq_eq_false_iff_ne.mpr c2
    have c2b1 : (a0_0 != 1) = true := bne_iff_ne.mpr c2
    obtain rfl := Option.some.inj H
    go_enter Tryd.func11, Tryd.ntmps11
    go_wp2_with (first | ((with_reducible refine gate_dst (N := 1) rfl ?_); refine box_event ?hg (N := 1) ?hd (cs := #[.int .i64 a0_0, .string a0_1, .string a0_2, .int .i64 a0_3, .int .i64 a0_4, .bool a0_5, .slice A0_6 l0_6.length c0_6]) (t := 31) ?hr ?_; (case hd => rfl); (case hg => rfl); (case hr => first | (go_simp; done) | (go_simp; rfl)); intro gb208 hg w7 hbox hb; have n0_ := Aside0.mk (below_step (by repeat (first | (with_reducible first | exact HB.out | apply below_alloc | apply pw_below_drewN | apply below_drew1) | exact HB.out)) hb); have n1_ := Aside0.mk (hbox); have n2_ := Aside0.mk ((by rw [hg]; exact (below_size (by repeat (first | (with_reducible first | exact HB.out | apply below_alloc | apply pw_below_drewN | apply below_drew1) | exact HB.out))) : w.heap.size ≤ gb208)); have n3_ := Aside0.mk ((by rw [hg]; exact (below_size (by repeat (first | (with_reducible first | exact HB.out | apply below_alloc | apply pw_below_drewN | apply below_drew1) | exact HB.out))) : w.heap.size ≤ gb208)); clear HB; have HB := n0_; have BK208 := n1_; have GW208 := n2_; have GE208 := n3_; clear n0_ n1_ n2_ n3_; clear hb hbox hg; have hcz8_0 : w7.cell? ⟨gb208, 0, none⟩ = some (.int .i64 a0_0) := (blk_cell BK208.out 0).trans rfl; have hcz8_1 : w7.cell? ⟨gb208, 1, none⟩ = some (.string a0_1) := (blk_cell BK208.out 1).trans rfl; have hcz8_2 : w7.cell? ⟨gb208, 2, none⟩ = some (.string a0_2) := (blk_cell BK208.out 2).trans rfl; have hcz8_3 : w7.cell? ⟨gb208, 3, none⟩ = some (.int .i64 a0_3) := (blk_cell BK208.out 3).trans rfl; have hcz8_4 : w7.cell? ⟨gb208, 4, none⟩ = some (.int .i64 a0_4) := (blk_cell BK208.out 4).trans rfl; have hcz8_5 : w7.cell? ⟨gb208, 5, none⟩ = some (.bool a0_5) := (blk_cell BK208.out 5).trans rfl; have hcz8_6 : w7.cell? ⟨gb208, 6, none⟩ = some (.slice A0_6 l0_6.length c0_6) := (blk_cell BK208.out 6).trans rfl; have hfz8_0 := blk_frozen BK208.out 0; have hfz8_1 := blk_frozen BK208.out 1; have hfz8_2 := blk_frozen BK208.out 2; have hfz8_3 := blk_frozen BK208.out 3; have hfz8_4 := blk_frozen BK208.out 4; have hfz8_5 := blk_frozen BK208.out 5; have hfz8_6 := blk_frozen BK208.out 6))
    go_ret
    exact ⟨by first | rfl | (simp [errW_none, errW_some] <;> rfl) | (simp [*, errW_none, errW_some] <;> rfl), by repeat (first | (with_reducible first | exact HB.out | apply below_alloc | apply pw_below_drewN | apply below_drew1 | refine below_set ?_ GE208.out) | exact HB.out)⟩

/-! ### auto_text: function 27 -/



end Go.Proofs.YtddmddlaamcpiaaDoor.PA

namespace Go.Proofs.YtddmddlaamcpiaaDoor.Pl
open Go.RowKit Go.Proofs.YtddmddlaamcpiaaDoor.PA Go.Proofs.YtddmddlaamcpiaaDoorW.PrintWords
set_option linter.unusedVariables false

theorem holds_f (k : Nat) (a : Int) : incipitref06_holds.f (k + 2) a = some (hld a) := by
  unfold incipitref06_holds.f hld
  have h1 : ∀ b : Bool, incipitref06_holds.j0 (k + 2) a b = if b = true then some 1 else if a = 7 ∨ a = 8 ∨ a = 12 ∨ a = 18 ∨ a = 19 ∨ a = 20 ∨ a = 21 ∨ a = 23 then some 2 else if a = 3 then some 3 else if a = 10 then some 4 else if a = 11 then some 5 else some 0 := by
    intro b
    rw [incipitref06_holds.j0]
    have h2 : ∀ b : Bool, incipitref06_holds.j1 (k + 1) a b = if b = true then some 2 else if a = 3 then some 3 else if a = 10 then some 4 else if a = 11 then some 5 else some 0 := fun b => by rw [incipitref06_holds.j1]
    simp only [h2]
    by_cases c1 : a = 7
    · simp [c1]
    by_cases c2 : a = 8
    · simp [c2]
    by_cases c3 : a = 12
    · simp [c3]
    by_cases c4 : a = 18
    · simp [c4]
    by_cases c5 : a = 19
    · simp [c5]
    by_cases c6 : a = 20
    · simp [c6]
    by_cases c7 : a = 21
    · simp [c7]
    by_cases c8 : a = 23
    · simp [c8]
    simp [c1, c2, c3, c4, c5, c6, c7, c8]
  simp only [h1]
  by_cases c1 : a = 1
  · simp [c1]
  by_cases c2 : a = 2
  · simp [c2]
  by_cases c3 : a = 4
  · simp [c3]
  by_cases c4 : a = 13
  · simp [c4]
  simp only [c1, c2, c3, c4, if_false, false_or, beq_iff_eq, or_false]
  repeat' split
  all_goals rfl
theorem sort_f (a : Int) : incipitref06_sort.f a = some (srt a) := by
  unfold incipitref06_sort.f srt
  rw [Option.bind_some]
  by_cases h0 : a < 0
  · rw [if_pos h0, if_pos (.inl h0)]
  · rw [if_neg h0]
    by_cases h1 : 26 ≤ a
    · rw [if_pos (by simp; omega), if_pos (.inr h1)]
    · rw [if_neg (by simp; omega), if_pos (by omega), if_pos (by simp; omega), if_neg (by omega)]
      rfl
mutual
def fw1 : Nd → Nat
  | ⟨_, _, _, _, _, _, l⟩ => 2 + fwL l
def fwL : List Nd → Nat
  | [] => 1
  | y :: r => 3 + fw1 y + fwL r
end
mutual
theorem well_1 : ∀ (x : Nd) (lk : Bool) (c : Nat), ct1 x ≤ 1099511627776 → incipitref06_well.f (fw1 x + c) x.f0 x.f1 x.f2 x.f3 x.f4 x.f5 x.f6 lk = some (wl1 lk x)
  | ⟨k, s, t, n, mm, fl, l⟩, lk, c, h => by
    rw [ct1] at h
    have hl := len_ct l
    rw [fw1, show 2 + fwL l + c = (fwL l + c + 1) + 1 by omega, incipitref06_well.f, wl1]
    dsimp only
    by_cases k20 : k = 20
    · rw [if_pos k20, incipitref06_well.j0]
      cases lk with
      | true => rw [if_pos rfl, decide_eq_true k20]; rfl
      | false =>
        rw [if_neg (by simp), show ((0 : Int)) = ((0 : Nat) : Int) from rfl, well_L l l 0 false c k s t n mm fl rfl (by omega) (by omega)]
        rw [Bool.and_false, Bool.not_false, Bool.true_and]
    · rw [if_neg k20, incipitref06_well.j0, if_neg (by simp), show ((0 : Int)) = ((0 : Nat) : Int) from rfl, well_L l l 0 lk c k s t n mm fl rfl (by omega) (by omega), decide_eq_false k20, Bool.false_and, Bool.not_false, Bool.true_and]
theorem well_L : ∀ (l L : List Nd) (i : Nat) (lk : Bool) (c : Nat) (k : Int) (s t : ByteArray) (n mm : Int) (fl : Bool), L.drop i = l → L.length ≤ 1099511627776 → ctL l ≤ 1099511627776 → incipitref06_well.l0 (fwL l + c) lk (i : Int) k s t n mm fl L = some (wlL (hld k) (lk || decide (k = 20)) l)
  | [], L, i, lk, c, k, s, t, n, mm, fl, hl, _, _ => by
    have := List.drop_eq_nil_iff.1 hl
    rw [fwL, show 1 + c = c + 1 by omega, incipitref06_well.l0, if_neg (by omega), wlL]
  | y :: r, L, i, lk, c, k, s, t, n, mm, fl, hl, hL, hc => by
    rw [ctL] at hc
    have hil : i < L.length := by
      refine Nat.lt_of_not_le fun h => ?_
      rw [List.drop_eq_nil_iff.2 h] at hl
      cases hl
    rw [List.drop_eq_getElem_cons hil, List.cons.injEq] at hl
    have hn : incipitref06_well.l0 (2 + fw1 y + fwL r + c) lk (wrap64 ((i : Int) + 1)) k s t n mm fl L = some (wlL (hld k) (lk || decide (k = 20)) r) := by
      rw [w64 (by omega) (by omega), show (i : Int) + 1 = ((i + 1 : Nat) : Int) by omega, show 2 + fw1 y + fwL r + c = fwL r + (2 + fw1 y + c) by omega]
      exact well_L r L (i + 1) lk (2 + fw1 y + c) k s t n mm fl hl.2 hL (by omega)
    rw [fwL, show 3 + fw1 y + fwL r + c = (2 + fw1 y + fwL r + c) + 1 by omega, incipitref06_well.l0, if_pos (by omega), hn, show 2 + fw1 y + fwL r + c = (fw1 y + fwL r + c) + 2 by omega, holds_f, Option.bind_some, wlL]
    by_cases h0 : hld k = 0
    · rw [if_pos h0, decide_eq_false (by simpa using h0)]
      rfl
    rw [if_neg h0, if_pos (by omega), sort_f, Option.bind_some, Option.bind_some, rd_at hil, hl.1, decide_eq_true h0, Bool.true_and]
    by_cases h1 : srt y.f0 = hld k
    · rw [if_pos h1, decide_eq_true h1, Bool.true_and]
      have hw : ∀ b, incipitref06_well.f (fw1 y + fwL r + c + 2) y.f0 y.f1 y.f2 y.f3 y.f4 y.f5 y.f6 b = some (wl1 b y) := fun b => by
        rw [show fw1 y + fwL r + c + 2 = fw1 y + (fwL r + c + 2) by omega]
        exact well_1 y b _ (by omega)
      rw [hw, hw, Option.bind_some, Option.bind_some]
      cases lk with
      | true =>
        rw [if_pos rfl, Bool.true_or]
        cases wl1 true y
        · rw [if_neg (by simp)]; rfl
        · rw [if_pos rfl]; rfl
      | false =>
        rw [if_neg (by simp), Bool.false_or, show (k == 20) = decide (k = 20) from rfl]
        cases wl1 (decide (k = 20)) y
        · rw [if_neg (by simp)]; rfl
        · rw [if_pos rfl]; rfl
    · rw [if_neg h1, decide_eq_false h1]
      rfl
end
/-- The document's Well. -/
def wel (x : Nd) : Bool := decide (x.f0 = 1) && wl1 false x
theorem Well_f (x : Nd) (c : Nat) (h : ct1 x ≤ 1099511627776) : incipitref06_Well.f (fw1 x + c) x.f0 x.f1 x.f2 x.f3 x.f4 x.f5 x.f6 = some (wel x) := by
  unfold incipitref06_Well.f wel
  by_cases h1 : x.f0 = 1
  · rw [if_pos h1, well_1 x false c h, Option.bind_some, decide_eq_true h1, Bool.true_and]
  · rw [if_neg h1, decide_eq_false h1, Bool.false_and]
theorem wel_apply {x : Nd} {l' : List Nd} (hw : wel x = true) (ha : ApL x.f6 l') : wel ⟨x.f0, x.f1, x.f2, x.f3, x.f4, x.f5, l'⟩ = true := by
  unfold wel at hw ⊢
  rw [Bool.and_eq_true, decide_eq_true_eq] at hw
  obtain ⟨h0, h1⟩ := hw
  rw [wl1_eta, h0] at h1
  rw [wl1_eta]
  dsimp only
  rw [h0, decide_eq_true rfl, Bool.true_and]
  rw [Bool.and_eq_true] at h1 ⊢
  exact ⟨h1.1, apL_well _ _ ha h1.2⟩
end Go.Proofs.YtddmddlaamcpiaaDoor.Pl

namespace Go.Proofs.YtddmddlaamcpiaaDoor.PA
open Go.RowKit Go.Proofs.YtddmddlaamcpiaaDoorW.PrintWords Go.Proofs.YtddmddlaamcpiaaDoorW.PrintLast Go.Proofs.YtddmddlaamcpiaaDoorW.PrintMore
attribute [local go_sem] max2_int min2_int max_two min_two max_three min_three max_four min_four   -- for this text's walks alone
set_option linter.unusedVariables false
set_option linter.unusedSimpArgs false

theorem eqA26 (d : Nat) (w : World) (x0 y0 : Int) (x1 y1 : Int) (x2 y2 : ByteArray) :
    (Op.equalIn (d + 2) 26 (.agg #[.int .i64 x0, .int .i64 x1, .string x2]) (.agg #[.int .i64 y0, .int .i64 y1, .string y2])).run Tryd.prog w = .ok (x0 == y0 && (x1 == y1 && (x2.toList == y2.toList))) w := by
  refine eqA_of Tryd.underlying26 (by kernel_rfl) ?_
  refine eqf_cons (by rfl) (by go_simp; rfl) (by go_simp; rfl) (by go_simp) ?_
  refine eqf_cons (by rfl) (by go_simp; rfl) (by go_simp; rfl) (by go_simp) ?_
  exact eqf_last (by rfl) (by go_simp; rfl) (by go_simp; rfl) (by go_simp)
end Go.Proofs.YtddmddlaamcpiaaDoor.PA

namespace Go.Proofs.YtddmddlaamcpiaaDoor.PA
open Go.RowKit Go.Proofs.YtddmddlaamcpiaaDoorW.PrintWords Go.Proofs.YtddmddlaamcpiaaDoorW.PrintLast Go.Proofs.YtddmddlaamcpiaaDoorW.PrintMore
attribute [local go_sem] max2_int min2_int max_two min_two max_three min_three max_four min_four   -- for this text's walks alone
set_option linter.unusedVariables false
set_option linter.unusedSimpArgs false

attribute [local go_sem high] eqA26
/-! ### incipitlaw17_AutoSums: function 6 -/
/-! ### incipitref06_few: function 15 -/
mutual
def incipitref06_few.l0 : Nat → Int → Int → Int → ByteArray → ByteArray → Int → Int → Bool → List (S31) → Option (Int)
  | 0, _, _, _, _, _, _, _, _, _ => none
  | k + 1, x1, x5, x192000, x192001, x192002, x192003, x192004, x192005, x192006 => if x5 < (x192006.length : Int) then (if x1 ≥ 0 then (if 0 ≤ x5 then ((incipitref06_few.f k ((rd_T31 x192006 x5).f0) ((rd_T31 x192006 x5).f1) ((rd_T31 x192006 x5).f2) ((rd_T31 x192006 x5).f3) ((rd_T31 x192006 x5).f4) ((rd_T31 x192006 x5).f5) ((rd_T31 x192006 x5).f6) x1).bind fun t193 => (incipitref06_few.l0 k t193 (wrap64 (x5 + 1)) x192000 x192001 x192002 x192003 x192004 x192005 x192006)) else (none)) else (some x1)) else (some x1)
def incipitref06_few.f : Nat → Int → ByteArray → ByteArray → Int → Int → Bool → List (S31) → Int → Option (Int)
  | 0, _, _, _, _, _, _, _, _ => none
  | k + 1, a0_0, a0_1, a0_2, a0_3, a0_4, a0_5, l0_6, a1 => incipitref06_few.l0 k (wrap64 ((wrap64 ((wrap64 (a1 - 1)) - (a0_1.size : Int))) - (a0_2.size : Int))) 0 a0_0 a0_1 a0_2 a0_3 a0_4 a0_5 l0_6
end
set_option maxHeartbeats 8000000 in
set_option maxRecDepth 100000 in
theorem incipitref06_few.calls (k : Nat) : ∀ (a0_0 : Int) (a0_1 : ByteArray) (a0_2 : ByteArray) (a0_3 : Int) (a0_4 : Int) (a0_5 : Bool) (A0_6 : Option Addr) (c0_6 : Nat) (l0_6 : List (S31)) (a1 : Int) (r : Int) (w : World) (hr0_6 : Kd.C k31 w A0_6 l0_6.length l0_6) (hc0_6 : l0_6.length ≤ c0_6) (h : incipitref06_few.f k a0_0 a0_1 a0_2 a0_3 a0_4 a0_5 l0_6 a1 = some r),
    Calls Tryd.prog 15 #[.agg #[.int .i64 a0_0, .string a0_1, .string a0_2, .int .i64 a0_3, .int .i64 a0_4, .bool a0_5, .slice A0_6 l0_6.length c0_6], .int .i64 a1] w fun e w' => e = .returned (.int .i64 r) ∧ Below w.heap.size w w' := by
  induction k using Nat.strongRecOn with
  | _ k ih =>
  intro a0_0 a0_1 a0_2 a0_3 a0_4 a0_5 A0_6 c0_6 l0_6 a1 r w hr0_6 hc0_6 h
  cases k with
  | zero => exact absurd h (by simp [incipitref06_few.f])
  | succ k =>
  simp only [incipitref06_few.f] at h
  have hu31 := Tryd.underlying31
  have HR0_6 := Aside0.mk hr0_6
  have HC0_6 := Aside0.mk hc0_6
  clear hr0_6 hc0_6
  have HB := Aside0.mk (Below.refl w.heap.size w)
  have H : (incipitref06_few.l0 k (wrap64 ((wrap64 ((wrap64 (a1 - 1)) - (a0_1.size : Int))) - (a0_2.size : Int))) 0 a0_0 a0_1 a0_2 a0_3 a0_4 a0_5 l0_6) = some r := h
  clear h
  have H' := Aside0.mk H
  clear H
  go_enter Tryd.func15, Tryd.ntmps15
  go_wp2_with (first | ((with_reducible refine gate_dst (N := 2) rfl ?_); refine box_event ?hg (N := 2) ?hd (cs := #[.int .i64 a0_0, .string a0_1, .string a0_2, .int .i64 a0_3, .int .i64 a0_4, .bool a0_5, .slice A0_6 l0_6.length c0_6]) (t := 31) ?hr ?_; (case hd => rfl); (case hg => rfl); (case hr => first | (go_simp; done) | (go_simp; rfl)); intro gb191 hg w3 hbox hb; have n0_ := Aside0.mk (below_step (by repeat (first | (with_reducible first | exact HB.out | apply below_alloc | apply pw_below_drewN | apply below_drew1) | exact HB.out)) hb); have n1_ := Aside0.mk (hbox); have n2_ := Aside0.mk ((by rw [hg]; exact (below_size (by repeat (first | (with_reducible first | exact HB.out | apply below_alloc | apply pw_below_drewN | apply below_drew1) | exact HB.out))) : w.heap.size ≤ gb191)); have n3_ := Aside0.mk ((by rw [hg]; exact (below_size (by repeat (first | (with_reducible first | exact HB.out | apply below_alloc | apply pw_below_drewN | apply below_drew1) | exact HB.out))) : w.heap.size ≤ gb191)); clear HB; have HB := n0_; have BK191 := n1_; have GW191 := n2_; have GE191 := n3_; clear n0_ n1_ n2_ n3_; clear hb hbox hg; have hcz4_0 : w3.cell? ⟨gb191, 0, none⟩ = some (.int .i64 a0_0) := (blk_cell BK191.out 0).trans rfl; have hcz4_1 : w3.cell? ⟨gb191, 1, none⟩ = some (.string a0_1) := (blk_cell BK191.out 1).trans rfl; have hcz4_2 : w3.cell? ⟨gb191, 2, none⟩ = some (.string a0_2) := (blk_cell BK191.out 2).trans rfl; have hcz4_3 : w3.cell? ⟨gb191, 3, none⟩ = some (.int .i64 a0_3) := (blk_cell BK191.out 3).trans rfl; have hcz4_4 : w3.cell? ⟨gb191, 4, none⟩ = some (.int .i64 a0_4) := (blk_cell BK191.out 4).trans rfl; have hcz4_5 : w3.cell? ⟨gb191, 5, none⟩ = some (.bool a0_5) := (blk_cell BK191.out 5).trans rfl; have hcz4_6 : w3.cell? ⟨gb191, 6, none⟩ = some (.slice A0_6 l0_6.length c0_6) := (blk_cell BK191.out 6).trans rfl; have hfz4_0 := blk_frozen BK191.out 0; have hfz4_1 := blk_frozen BK191.out 1; have hfz4_2 := blk_frozen BK191.out 2; have hfz4_3 := blk_frozen BK191.out 3; have hfz4_4 := blk_frozen BK191.out 4; have hfz4_5 := blk_frozen BK191.out 5; have hfz4_6 := blk_frozen BK191.out 6))
  go_loopg [1, 5] k (fun kq v1 v5 w' => ∃ (x1_1 : Int) (x5_1 : Int), v1 = .int .i64 x1_1 ∧ v5 = .int .i64 x5_1 ∧ Aside0 (incipitref06_few.l0 kq x1_1 x5_1 a0_0 a0_1 a0_2 a0_3 a0_4 a0_5 l0_6 = some r) ∧ Aside0 (kq ≤ k) ∧ Aside0 (w'.heap[gb191]? = some (.cells #[.int .i64 a0_0, .string a0_1, .string a0_2, .int .i64 a0_3, .int .i64 a0_4, .bool a0_5, (.slice A0_6 l0_6.length c0_6)] 31 (0, 0))) ∧ Aside0 (Below w.heap.size w w'))
  case atStart => exact ⟨(wrap64 ((wrap64 ((wrap64 (a1 - 1)) - (a0_1.size : Int))) - (a0_2.size : Int))), (0), (by first | rfl | (simp; done) | (simp [*]; done)), (by first | rfl | (simp; done) | (simp [*]; done)), H', ⟨Nat.le_refl _⟩, ⟨by (with_reducible repeat (first | refine blk_drewN ?_ _ | refine blk_drew ?_ | refine blk_alloc ?_ _)); exact BK191.out⟩, ⟨by repeat (first | (with_reducible first | exact HB.out | apply below_alloc | apply pw_below_drewN | apply below_drew1 | refine below_set ?_ GE191.out) | exact HB.out)⟩⟩
  case round =>
    clear H'
    try clear c1
    try clear p2
    try clear hcz4_0
    try clear hcz4_1
    try clear hcz4_2
    try clear hcz4_3
    try clear hcz4_4
    try clear hcz4_5
    try clear hcz4_6
    try clear hfz4_0
    try clear hfz4_1
    try clear hfz4_2
    try clear hfz4_3
    try clear hfz4_4
    try clear hfz4_5
    try clear hfz4_6
    obtain ⟨x1_1, x5_1, rfl, rfl, HA, HK1, BK191, HB⟩ := hrel
    cases gk with
    | zero => exact absurd HA.out (by simp [incipitref06_few.l0])
    | succ k1 =>
      have H := HA.out
      clear HA
      simp only [incipitref06_few.l0] at H
      by_cases c5 : x5_1 < (l0_6.length : Int)
      · rw [if_pos c5] at H
        have c5b0 : decide (x5_1 < (l0_6.length : Int)) = true := decide_eq_true c5
        clear c5
        by_cases c6 : x1_1 ≥ 0
        · rw [if_pos c6] at H
          have c6b0 : decide (0 ≤ x1_1) = true := decide_eq_true c6
          clear c6
          by_cases c7 : 0 ≤ x5_1
          · rw [if_pos c7] at H
            have c7b0 : decide (0 ≤ x5_1) = true := decide_eq_true c7
            clear c7
            replace H := Option.bind_eq_some_iff.mp H
            obtain ⟨t193, A80, H⟩ := H
            replace H : (incipitref06_few.l0 k1 t193 (wrap64 (x5_1 + 1)) a0_0 a0_1 a0_2 a0_3 a0_4 a0_5 l0_6) = some r := H
            have A8 := Aside0.mk A80
            clear A80
            have H' := Aside0.mk H
            clear H
            have hcz9_0 : wr.cell? ⟨gb191, 0, none⟩ = some (.int .i64 a0_0) := (blk_cell BK191.out 0).trans rfl
            have hcz9_1 : wr.cell? ⟨gb191, 1, none⟩ = some (.string a0_1) := (blk_cell BK191.out 1).trans rfl
            have hcz9_2 : wr.cell? ⟨gb191, 2, none⟩ = some (.string a0_2) := (blk_cell BK191.out 2).trans rfl
            have hcz9_3 : wr.cell? ⟨gb191, 3, none⟩ = some (.int .i64 a0_3) := (blk_cell BK191.out 3).trans rfl
            have hcz9_4 : wr.cell? ⟨gb191, 4, none⟩ = some (.int .i64 a0_4) := (blk_cell BK191.out 4).trans rfl
            have hcz9_5 : wr.cell? ⟨gb191, 5, none⟩ = some (.bool a0_5) := (blk_cell BK191.out 5).trans rfl
            have hcz9_6 : wr.cell? ⟨gb191, 6, none⟩ = some (.slice A0_6 l0_6.length c0_6) := (blk_cell BK191.out 6).trans rfl
            have hfz9_0 := blk_frozen BK191.out 0
            have hfz9_1 := blk_frozen BK191.out 1
            have hfz9_2 := blk_frozen BK191.out 2
            have hfz9_3 := blk_frozen BK191.out 3
            have hfz9_4 := blk_frozen BK191.out 4
            have hfz9_5 := blk_frozen BK191.out 5
            have hfz9_6 := blk_frozen BK191.out 6
            have p192 : 0 ≤ (x5_1 : Int) := of_decide_eq_true (by first | (with_reducible assumption) | assumption)
            have q192 : x5_1 < (l0_6.length : Int) := of_decide_eq_true (by first | (with_reducible assumption) | assumption)
            obtain ⟨ad192, A192_6, c192_6, e192, hx192_0, hx192_1, hx192_2, hx192_3, hx192_4, hx192_5, hx192_6, hl192_6, hi192_6⟩ := at_T31 HR0_6.out x5_1 p192 q192
            cases e192
            replace hx192_0 := (HB.out.cell (World.block_lt_of_cell? w _ hx192_0)).trans hx192_0
            replace hx192_1 := (HB.out.cell (World.block_lt_of_cell? w _ hx192_1)).trans hx192_1
            replace hx192_2 := (HB.out.cell (World.block_lt_of_cell? w _ hx192_2)).trans hx192_2
            replace hx192_3 := (HB.out.cell (World.block_lt_of_cell? w _ hx192_3)).trans hx192_3
            replace hx192_4 := (HB.out.cell (World.block_lt_of_cell? w _ hx192_4)).trans hx192_4
            replace hx192_5 := (HB.out.cell (World.block_lt_of_cell? w _ hx192_5)).trans hx192_5
            replace hx192_6 := (HB.out.cell (World.block_lt_of_cell? w _ hx192_6)).trans hx192_6
            have HR192_6 := Aside0.mk hi192_6
            have HC192_6 := Aside0.mk hl192_6
            clear hi192_6 hl192_6
            replace p192 := eq_true p192
            replace q192 := eq_true q192
            go_wp2_with (first | ((with_reducible refine gate_callee (f := 15) rfl ?_); refine goesL_ (some 33) rfl rfl Tryd.func15 (by kernel_rfl) rfl #[.agg #[.int .i64 ((rd_T31 l0_6 x5_1).f0), .string ((rd_T31 l0_6 x5_1).f1), .string ((rd_T31 l0_6 x5_1).f2), .int .i64 ((rd_T31 l0_6 x5_1).f3), .int .i64 ((rd_T31 l0_6 x5_1).f4), .bool ((rd_T31 l0_6 x5_1).f5), .slice A192_6 ((rd_T31 l0_6 x5_1).f6).length c192_6], .int .i64 x1_1] rfl (by (try simp only [List.map_toArray, List.map_cons, List.map_nil]); first | done | rfl | (simp only [List.length_drop, List.length_take]; rfl)) ?_; (with_reducible refine (ih k1 (by have := HK1.out; omega) ((rd_T31 l0_6 x5_1).f0) ((rd_T31 l0_6 x5_1).f1) ((rd_T31 l0_6 x5_1).f2) ((rd_T31 l0_6 x5_1).f3) ((rd_T31 l0_6 x5_1).f4) ((rd_T31 l0_6 x5_1).f5) _ _ ((rd_T31 l0_6 x5_1).f6) x1_1 t193 _ ?side1 ?side2 A8.out).mono ?_); (case side1 => repeat (first | exact (Kd.C_below HR192_6.out HB.out) | (with_reducible refine Kd.C_alloc ?_ _) | (with_reducible refine Kd.C_drewN ?_ _) | (with_reducible refine Kd.C_drew ?_))); (case side2 => exact HC192_6.out); rintro e w10 ⟨rfl, hb⟩; refine ⟨_, rfl, ?_⟩; have n0_ := Aside0.mk (blk_below (g := gb191) (o := .cells #[.int .i64 a0_0, .string a0_1, .string a0_2, .int .i64 a0_3, .int .i64 a0_4, .bool a0_5, .slice (some ad192) l0_6.length c0_6] 31 (0, 0)) (by (with_reducible repeat (first | refine blk_drewN ?_ _ | refine blk_drew ?_ | refine blk_alloc ?_ _)); exact BK191.out) hb); have n1_ := Aside0.mk (below_step (by repeat (first | (with_reducible first | exact HB.out | apply below_alloc | apply pw_below_drewN | apply below_drew1 | refine below_set ?_ GE191.out) | exact HB.out)) hb); clear BK191; clear HB; have BK191 := n0_; have HB := n1_; clear n0_ n1_; (try clear hb); (try clear hb2); (try clear hk); (try clear hi)))
            go_roundg k1
            case measure => have := HK1.out; omega
            case rel => exact ⟨(t193), (wrap64 (x5_1 + 1)), (by first | rfl | (simp; done) | (simp [*]; done)), (by first | rfl | (simp; done) | (simp [*]; done)), H', ⟨by have := HK1.out; omega⟩, ⟨by (with_reducible repeat (first | refine blk_drewN ?_ _ | refine blk_drew ?_ | refine blk_alloc ?_ _)); exact BK191.out⟩, ⟨by repeat (first | (with_reducible first | exact HB.out | apply below_alloc | apply pw_below_drewN | apply below_drew1 | refine below_set ?_ GE191.out) | exact HB.out)⟩⟩
          · rw [if_neg c7] at H
            exact absurd H (by simp)
        · rw [if_neg c6] at H
          have c6b0 : decide (0 ≤ x1_1) = false := decide_eq_false c6
          clear c6
          obtain rfl := Option.some.inj H
          have hcz11_0 : wr.cell? ⟨gb191, 0, none⟩ = some (.int .i64 a0_0) := (blk_cell BK191.out 0).trans rfl
          have hcz11_1 : wr.cell? ⟨gb191, 1, none⟩ = some (.string a0_1) := (blk_cell BK191.out 1).trans rfl
          have hcz11_2 : wr.cell? ⟨gb191, 2, none⟩ = some (.string a0_2) := (blk_cell BK191.out 2).trans rfl
          have hcz11_3 : wr.cell? ⟨gb191, 3, none⟩ = some (.int .i64 a0_3) := (blk_cell BK191.out 3).trans rfl
          have hcz11_4 : wr.cell? ⟨gb191, 4, none⟩ = some (.int .i64 a0_4) := (blk_cell BK191.out 4).trans rfl
          have hcz11_5 : wr.cell? ⟨gb191, 5, none⟩ = some (.bool a0_5) := (blk_cell BK191.out 5).trans rfl
          have hcz11_6 : wr.cell? ⟨gb191, 6, none⟩ = some (.slice A0_6 l0_6.length c0_6) := (blk_cell BK191.out 6).trans rfl
          have hfz11_0 := blk_frozen BK191.out 0
          have hfz11_1 := blk_frozen BK191.out 1
          have hfz11_2 := blk_frozen BK191.out 2
          have hfz11_3 := blk_frozen BK191.out 3
          have hfz11_4 := blk_frozen BK191.out 4
          have hfz11_5 := blk_frozen BK191.out 5
          have hfz11_6 := blk_frozen BK191.out 6
          go_wp2
          go_ret
          exact ⟨by first | rfl | (simp [errW_none, errW_some] <;> rfl) | (simp [*, errW_none, errW_some] <;> rfl), by repeat (first | (with_reducible first | exact HB.out | apply below_alloc | apply pw_below_drewN | apply below_drew1 | refine below_set ?_ GE191.out) | exact HB.out)⟩
      · rw [if_neg c5] at H
        have c5b0 : decide (x5_1 < (l0_6.length : Int)) = false := decide_eq_false c5
        clear c5
        obtain rfl := Option.some.inj H
        have hcz12_0 : wr.cell? ⟨gb191, 0, none⟩ = some (.int .i64 a0_0) := (blk_cell BK191.out 0).trans rfl
        have hcz12_1 : wr.cell? ⟨gb191, 1, none⟩ = some (.string a0_1) := (blk_cell BK191.out 1).trans rfl
        have hcz12_2 : wr.cell? ⟨gb191, 2, none⟩ = some (.string a0_2) := (blk_cell BK191.out 2).trans rfl
        have hcz12_3 : wr.cell? ⟨gb191, 3, none⟩ = some (.int .i64 a0_3) := (blk_cell BK191.out 3).trans rfl
        have hcz12_4 : wr.cell? ⟨gb191, 4, none⟩ = some (.int .i64 a0_4) := (blk_cell BK191.out 4).trans rfl
        have hcz12_5 : wr.cell? ⟨gb191, 5, none⟩ = some (.bool a0_5) := (blk_cell BK191.out 5).trans rfl
        have hcz12_6 : wr.cell? ⟨gb191, 6, none⟩ = some (.slice A0_6 l0_6.length c0_6) := (blk_cell BK191.out 6).trans rfl
        have hfz12_0 := blk_frozen BK191.out 0
        have hfz12_1 := blk_frozen BK191.out 1
        have hfz12_2 := blk_frozen BK191.out 2
        have hfz12_3 := blk_frozen BK191.out 3
        have hfz12_4 := blk_frozen BK191.out 4
        have hfz12_5 := blk_frozen BK191.out 5
        have hfz12_6 := blk_frozen BK191.out 6
        go_wp2
        go_ret
        exact ⟨by first | rfl | (simp [errW_none, errW_some] <;> rfl) | (simp [*, errW_none, errW_some] <;> rfl), by repeat (first | (with_reducible first | exact HB.out | apply below_alloc | apply pw_below_drewN | apply below_drew1 | refine below_set ?_ GE191.out) | exact HB.out)⟩

/-! ### incipitref06_Few: function 10 -/
def incipitref06_Few.f (k : Nat) (a0_0 : Int) (a0_1 : ByteArray) (a0_2 : ByteArray) (a0_3 : Int) (a0_4 : Int) (a0_5 : Bool) (l0_6 : List (S31)) (a1 : Int) : Option (Bool) := (incipitref06_few.f k a0_0 a0_1 a0_2 a0_3 a0_4 a0_5 l0_6 a1).bind fun t195 => (some (decide (t195 ≥ 0)))
set_option maxHeartbeats 8000000 in
set_option maxRecDepth 100000 in
theorem incipitref06_Few.calls (k : Nat) (a0_0 : Int) (a0_1 : ByteArray) (a0_2 : ByteArray) (a0_3 : Int) (a0_4 : Int) (a0_5 : Bool) (A0_6 : Option Addr) (c0_6 : Nat) (l0_6 : List (S31)) (a1 : Int) (r : Bool) (w : World) (hr0_6 : Kd.C k31 w A0_6 l0_6.length l0_6) (hc0_6 : l0_6.length ≤ c0_6) (h : incipitref06_Few.f k a0_0 a0_1 a0_2 a0_3 a0_4 a0_5 l0_6 a1 = some r) :
    Calls Tryd.prog 10 #[.agg #[.int .i64 a0_0, .string a0_1, .string a0_2, .int .i64 a0_3, .int .i64 a0_4, .bool a0_5, .slice A0_6 l0_6.length c0_6], .int .i64 a1] w fun e w' => e = .returned (.bool r) ∧ Below w.heap.size w w' := by
  have hu31 := Tryd.underlying31
  have HR0_6 := Aside0.mk hr0_6
  have HC0_6 := Aside0.mk hc0_6
  clear hr0_6 hc0_6
  have HB := Aside0.mk (Below.refl w.heap.size w)
  have H : ((incipitref06_few.f k a0_0 a0_1 a0_2 a0_3 a0_4 a0_5 l0_6 a1).bind fun t195 => (some (decide (t195 ≥ 0)))) = some r := h
  clear h
  replace H := Option.bind_eq_some_iff.mp H
  obtain ⟨t195, A30, H⟩ := H
  replace H : (some (decide (t195 ≥ 0))) = some r := H
  have A3 := Aside0.mk A30
  clear A30
  obtain rfl := Option.some.inj H
  go_enter Tryd.func10, Tryd.ntmps10
  go_wp2_with (first | ((with_reducible refine gate_dst (N := 2) rfl ?_); refine box_event ?hg (N := 2) ?hd (cs := #[.int .i64 a0_0, .string a0_1, .string a0_2, .int .i64 a0_3, .int .i64 a0_4, .bool a0_5, .slice A0_6 l0_6.length c0_6]) (t := 31) ?hr ?_; (case hd => rfl); (case hg => rfl); (case hr => first | (go_simp; done) | (go_simp; rfl)); intro gb194 hg w4 hbox hb; have n0_ := Aside0.mk (below_step (by repeat (first | (with_reducible first | exact HB.out | apply below_alloc | apply pw_below_drewN | apply below_drew1) | exact HB.out)) hb); have n1_ := Aside0.mk (hbox); have n2_ := Aside0.mk ((by rw [hg]; exact (below_size (by repeat (first | (with_reducible first | exact HB.out | apply below_alloc | apply pw_below_drewN | apply below_drew1) | exact HB.out))) : w.heap.size ≤ gb194)); have n3_ := Aside0.mk ((by rw [hg]; exact (below_size (by repeat (first | (with_reducible first | exact HB.out | apply below_alloc | apply pw_below_drewN | apply below_drew1) | exact HB.out))) : w.heap.size ≤ gb194)); clear HB; have HB := n0_; have BK194 := n1_; have GW194 := n2_; have GE194 := n3_; clear n0_ n1_ n2_ n3_; clear hb hbox hg; have hcz5_0 : w4.cell? ⟨gb194, 0, none⟩ = some (.int .i64 a0_0) := (blk_cell BK194.out 0).trans rfl; have hcz5_1 : w4.cell? ⟨gb194, 1, none⟩ = some (.string a0_1) := (blk_cell BK194.out 1).trans rfl; have hcz5_2 : w4.cell? ⟨gb194, 2, none⟩ = some (.string a0_2) := (blk_cell BK194.out 2).trans rfl; have hcz5_3 : w4.cell? ⟨gb194, 3, none⟩ = some (.int .i64 a0_3) := (blk_cell BK194.out 3).trans rfl; have hcz5_4 : w4.cell? ⟨gb194, 4, none⟩ = some (.int .i64 a0_4) := (blk_cell BK194.out 4).trans rfl; have hcz5_5 : w4.cell? ⟨gb194, 5, none⟩ = some (.bool a0_5) := (blk_cell BK194.out 5).trans rfl; have hcz5_6 : w4.cell? ⟨gb194, 6, none⟩ = some (.slice A0_6 l0_6.length c0_6) := (blk_cell BK194.out 6).trans rfl; have hfz5_0 := blk_frozen BK194.out 0; have hfz5_1 := blk_frozen BK194.out 1; have hfz5_2 := blk_frozen BK194.out 2; have hfz5_3 := blk_frozen BK194.out 3; have hfz5_4 := blk_frozen BK194.out 4; have hfz5_5 := blk_frozen BK194.out 5; have hfz5_6 := blk_frozen BK194.out 6) | ((with_reducible refine gate_callee (f := 15) rfl ?_); refine goesL_ (some 7) rfl rfl Tryd.func15 (by kernel_rfl) rfl #[.agg #[.int .i64 a0_0, .string a0_1, .string a0_2, .int .i64 a0_3, .int .i64 a0_4, .bool a0_5, .slice A0_6 l0_6.length c0_6], .int .i64 a1] rfl (by (try simp only [List.map_toArray, List.map_cons, List.map_nil]); first | done | rfl | (simp only [List.length_drop, List.length_take]; rfl)) ?_; (with_reducible refine (incipitref06_few.calls k a0_0 a0_1 a0_2 a0_3 a0_4 a0_5 _ _ l0_6 a1 t195 _ ?side1 ?side2 A3.out).mono ?_); (case side1 => repeat (first | exact (Kd.C_below HR0_6.out HB.out) | (with_reducible refine Kd.C_alloc ?_ _) | (with_reducible refine Kd.C_drewN ?_ _) | (with_reducible refine Kd.C_drew ?_))); (case side2 => exact HC0_6.out); rintro e w6 ⟨rfl, hb⟩; refine ⟨_, rfl, ?_⟩; have n0_ := Aside0.mk (blk_below (g := gb194) (o := .cells #[.int .i64 a0_0, .string a0_1, .string a0_2, .int .i64 a0_3, .int .i64 a0_4, .bool a0_5, .slice A0_6 l0_6.length c0_6] 31 (0, 0)) (by (with_reducible repeat (first | refine blk_drewN ?_ _ | refine blk_drew ?_ | refine blk_alloc ?_ _)); exact BK194.out) hb); have n1_ := Aside0.mk (below_step (by repeat (first | (with_reducible first | exact HB.out | apply below_alloc | apply pw_below_drewN | apply below_drew1 | refine below_set ?_ GE194.out) | exact HB.out)) hb); clear BK194; clear HB; have BK194 := n0_; have HB := n1_; clear n0_ n1_; (try clear hb); (try clear hb2); (try clear hk); (try clear hi)))
  go_ret
  exact ⟨by first | rfl | (simp [errW_none, errW_some] <;> rfl) | (simp [*, errW_none, errW_some] <;> rfl), by repeat (first | (with_reducible first | exact HB.out | apply below_alloc | apply pw_below_drewN | apply below_drew1 | refine below_set ?_ GE194.out) | exact HB.out)⟩

end Go.Proofs.YtddmddlaamcpiaaDoor.PA

namespace Go.Proofs.YtddmddlaamcpiaaDoor.Pl
open Go.RowKit Go.Proofs.YtddmddlaamcpiaaDoor.PA Go.Proofs.YtddmddlaamcpiaaDoorW.PrintWords
set_option linter.unusedVariables false

mutual
def fl1 : Nd → Int → Int
  | ⟨k, s, t, n, mm, fl, l⟩, left => flL l (left - 1 - (s.size : Int) - (t.size : Int))
def flL : List Nd → Int → Int
  | [], left => left
  | y :: r, left => if left ≥ 0 then flL r (fl1 y left) else left
end
mutual
theorem fl1_le : ∀ (x : Nd) (left : Int), dt1 x → 0 ≤ left → left ≤ 2147483648 → -1000000000000000 ≤ fl1 x left ∧ (0 ≤ fl1 x left → fl1 x left = left - (wt1 x : Int)) ∧ fl1 x left ≤ left - 1
  | ⟨k, s, t, n, mm, fl, l⟩, left, hd, h0, h1 => by
    rw [dt1] at hd
    have hs := hd.1.2.2.1
    have ht := hd.1.2.2.2
    have h := flL_le l (left - 1 - (s.size : Int) - (t.size : Int)) hd.2 (by omega) (by omega)
    rw [fl1, wt1]
    exact ⟨h.1, fun h2 => by have := h.2.1 h2; omega, by have := h.2.2; omega⟩
theorem flL_le : ∀ (l : List Nd) (left : Int), dtl l → -1000000000000000 ≤ left → left ≤ 2147483648 → -1000000000000000 ≤ flL l left ∧ (0 ≤ flL l left → flL l left = left - (wt l : Int)) ∧ flL l left ≤ left
  | [], left, _, h0, h1 => by
    rw [flL, wt]
    exact ⟨h0, fun _ => by omega, Int.le_refl _⟩
  | y :: r, left, hd, h0, h1 => by
    rw [dtl] at hd
    rw [flL, wt]
    by_cases hp : left ≥ 0
    · rw [if_pos hp]
      have h2 := fl1_le y left hd.1 hp h1
      have h3 := flL_le r (fl1 y left) hd.2 h2.1 (by omega)
      exact ⟨h3.1, fun h4 => by have h5 := h3.2.1 h4; have h6 := h2.2.1 (by have := h3.2.2; omega); omega, by have := h3.2.2; omega⟩
    · rw [if_neg hp]
      exact ⟨h0, fun h4 => absurd h4 hp, Int.le_refl _⟩
end
mutual
def fu1 : Nd → Nat
  | ⟨_, _, _, _, _, _, l⟩ => 1 + fuL l
def fuL : List Nd → Nat
  | [] => 1
  | y :: r => 1 + fu1 y + fuL r
end
mutual
theorem few6_1 : ∀ (x : Nd) (left : Int) (c : Nat), dt1 x → 0 ≤ left → left ≤ 2147483648 → incipitref06_few.f (fu1 x + c) x.f0 x.f1 x.f2 x.f3 x.f4 x.f5 x.f6 left = some (fl1 x left)
  | ⟨k, s, t, n, mm, fl, l⟩, left, c, hd, h0, h1 => by
    rw [dt1] at hd
    have hs := hd.1.2.2.1
    have ht := hd.1.2.2.2
    rw [fu1, show 1 + fuL l + c = (fuL l + c) + 1 by omega, incipitref06_few.f, w64 (x := left - 1) (by omega) (by omega), w64 (x := left - 1 - (s.size : Int)) (by omega) (by omega), w64 (x := left - 1 - (s.size : Int) - (t.size : Int)) (by omega) (by omega), fl1]
    exact few6_L l l 0 (left - 1 - (s.size : Int) - (t.size : Int)) c k n mm fl s t rfl hd.2 (by omega) (by omega)
theorem few6_L : ∀ (l L : List Nd) (i : Nat) (x1 : Int) (c : Nat) (k n mm : Int) (fl : Bool) (s t : ByteArray), L.drop i = l → dtl l → -1000000000000000 ≤ x1 → x1 + (i : Int) ≤ 2147483648 → incipitref06_few.l0 (fuL l + c) x1 (i : Int) k s t n mm fl L = some (flL l x1)
  | [], L, i, x1, c, k, n, mm, fl, s, t, hl, _, _, _ => by
    have := List.drop_eq_nil_iff.1 hl
    rw [fuL, show 1 + c = c + 1 by omega, incipitref06_few.l0, if_neg (by omega), flL]
  | y :: r, L, i, x1, c, k, n, mm, fl, s, t, hl, hd, h0, h1 => by
    rw [dtl] at hd
    have hil : i < L.length := by
      refine Nat.lt_of_not_le fun h => ?_
      rw [List.drop_eq_nil_iff.2 h] at hl
      cases hl
    rw [List.drop_eq_getElem_cons hil, List.cons.injEq] at hl
    rw [fuL, show 1 + fu1 y + fuL r + c = (fu1 y + (fuL r + c)) + 1 by omega, incipitref06_few.l0, if_pos (by omega), flL]
    by_cases hp : x1 ≥ 0
    · have h2 := fl1_le y x1 hd.1 hp (by omega)
      rw [if_pos hp, if_pos hp, if_pos (by omega), rd_at hil, hl.1, few6_1 y x1 (fuL r + c) hd.1 hp (by omega), Option.bind_some, w64 (by omega) (by omega), show (i : Int) + 1 = ((i + 1 : Nat) : Int) by omega, show fu1 y + (fuL r + c) = fuL r + (fu1 y + c) by omega]
      exact few6_L r L (i + 1) (fl1 y x1) (fu1 y + c) k n mm fl s t hl.2 hd.2 h2.1 (by omega)
    · rw [if_neg hp, if_neg hp]
end
theorem Few_f (most : Int) (h0 : 0 ≤ most) (h1 : most ≤ 2147483648) (x : Nd) (hd : dt1 x) (c : Nat) : incipitref06_Few.f (fu1 x + c) x.f0 x.f1 x.f2 x.f3 x.f4 x.f5 x.f6 most = some (decide (fl1 x most ≥ 0)) := by
  unfold incipitref06_Few.f
  rw [few6_1 x most c hd (by omega) (by omega), Option.bind_some]
theorem fl1_wt {most : Int} (h0 : 0 ≤ most) (h1 : most ≤ 2147483648) {x : Nd} (hd : dt1 x) (h : fl1 x most ≥ 0) : (wt1 x : Int) ≤ most := by
  have := (fl1_le x most hd (by omega) (by omega)).2.1 h
  omega
end Go.Proofs.YtddmddlaamcpiaaDoor.Pl

namespace Go.Proofs.YtddmddlaamcpiaaDoor.PA
open Go.RowKit Go.Proofs.YtddmddlaamcpiaaDoor.Pl Go.Proofs.YtddmddlaamcpiaaDoorW.PrintWords Go.Proofs.YtddmddlaamcpiaaDoorW.PrintLast Go.Proofs.YtddmddlaamcpiaaDoorW.PrintMore
set_option linter.unusedVariables false

/-- The argument's box. -/
structure Bw (w : World) (a : Nd) (A : Option Addr) (c : Nat) (W : World) : Prop where
  bel : Below w.heap.size w W
  bx : W.heap[w.heap.size]? = some (.cells (ncs a A c) 31 (0, 0))
section
variable {w W W' : World} {a : Nd} {A : Option Addr} {c : Nat}
theorem Bw.step (h : Bw w a A c W) (hb : Below W.heap.size W W') : Bw w a A c W' := ⟨below_step h.bel hb, (hb.block _ (Array.getElem?_eq_some_iff.1 h.bx).1).trans h.bx⟩
theorem bw_new (w : World) (a : Nd) (A : Option Addr) (c : Nat) : Bw w a A c (w.alloc (.cells (ncs a A c) 31)) := ⟨below_alloc (Below.refl _ _) _, heap_alloc_new w _⟩
end
set_option maxHeartbeats 2000000 in
set_option maxRecDepth 100000 in
theorem well_few {w : World} {A : Option Addr} {c : Nat} {a : Nd} (hLd : Laid w) (k : Nat) (hr : Kd.C k31 w A a.f6.length a.f6) (hc : a.f6.length ≤ c) (hf : incipitref06_Few.f k a.f0 a.f1 a.f2 a.f3 a.f4 a.f5 a.f6 2000 = some false) :
    Calls Tryd.prog 7 #[.agg (ncs a A c)] w fun e w' => e = .returned (.bool true) ∧ Below w.heap.size w w' := by
  obtain ⟨ka, hka⟩ := awake_ev.rounds
  have HX2 := Aside0.mk (bw_new w a A c)
  have HA := Aside0.mk (fun (W : World) (hW : Bw w a A c W) => incipitlaw17_awake.calls ka true W (hLd.go hW.bel) hka)
  have HF := Aside0.mk (fun (W : World) (hW : Bw w a A c W) => incipitref06_Few.calls k a.f0 a.f1 a.f2 a.f3 a.f4 a.f5 A c a.f6 2000 false W (Kd.C_below hr hW.bel) hc hf)
  clear hLd hr hc hf hka
  go_enter Tryd.func7, Tryd.ntmps7
  go_wp2_with fail
  refine (HA.out _ HX2.out).mono ?_
  rintro e w3 ⟨rfl, hb3⟩
  have HX3 := Aside0.mk (HX2.out.step hb3)
  clear hb3 HX2
  obtain ⟨d0, d1, d2, d3, d4, d5, d6⟩ := ndAt HX3.out.bx
  go_wp2_with fail
  refine (HF.out _ HX3.out).mono ?_
  rintro e w4 ⟨rfl, hb4⟩
  have HX4 := Aside0.mk (HX3.out.step hb4)
  clear hb4 HX3 d0 d1 d2 d3 d4 d5 d6
  go_wp2
  go_ret
  exact ⟨rfl, HX4.out.bel⟩
set_option maxHeartbeats 2000000 in
set_option maxRecDepth 100000 in
theorem well_not {w : World} {A : Option Addr} {c : Nat} {a : Nd} (hLd : Laid w) (k : Nat) (hr : Kd.C k31 w A a.f6.length a.f6) (hc : a.f6.length ≤ c) (hf : incipitref06_Few.f k a.f0 a.f1 a.f2 a.f3 a.f4 a.f5 a.f6 2000 = some true) (hw : incipitref06_Well.f k a.f0 a.f1 a.f2 a.f3 a.f4 a.f5 a.f6 = some false) :
    Calls Tryd.prog 7 #[.agg (ncs a A c)] w fun e w' => e = .returned (.bool true) ∧ Below w.heap.size w w' := by
  obtain ⟨ka, hka⟩ := awake_ev.rounds
  have HX2 := Aside0.mk (bw_new w a A c)
  have HA := Aside0.mk (fun (W : World) (hW : Bw w a A c W) => incipitlaw17_awake.calls ka true W (hLd.go hW.bel) hka)
  have HF := Aside0.mk (fun (W : World) (hW : Bw w a A c W) => incipitref06_Few.calls k a.f0 a.f1 a.f2 a.f3 a.f4 a.f5 A c a.f6 2000 true W (Kd.C_below hr hW.bel) hc hf)
  have HWL := Aside0.mk (fun (W : World) (hW : Bw w a A c W) => incipitref06_Well.calls k a.f0 a.f1 a.f2 a.f3 a.f4 a.f5 A c a.f6 false W (Kd.C_below hr hW.bel) hc hw)
  clear hLd hr hc hf hw hka
  go_enter Tryd.func7, Tryd.ntmps7
  go_wp2_with fail
  refine (HA.out _ HX2.out).mono ?_
  rintro e w3 ⟨rfl, hb3⟩
  have HX3 := Aside0.mk (HX2.out.step hb3)
  clear hb3 HX2
  obtain ⟨d0, d1, d2, d3, d4, d5, d6⟩ := ndAt HX3.out.bx
  go_wp2_with fail
  refine (HF.out _ HX3.out).mono ?_
  rintro e w4 ⟨rfl, hb4⟩
  have HX4 := Aside0.mk (HX3.out.step hb4)
  clear hb4 HX3 d0 d1 d2 d3 d4 d5 d6
  obtain ⟨d0, d1, d2, d3, d4, d5, d6⟩ := ndAt HX4.out.bx
  go_wp2_with fail
  refine (HWL.out _ HX4.out).mono ?_
  rintro e w5 ⟨rfl, hb5⟩
  have HX5 := Aside0.mk (HX4.out.step hb5)
  clear hb5 HX4 d0 d1 d2 d3 d4 d5 d6
  go_wp2
  go_ret
  exact ⟨rfl, HX5.out.bel⟩
set_option maxHeartbeats 4000000 in
set_option maxRecDepth 100000 in
theorem well_yes {w : World} {A : Option Addr} {c : Nat} {a : Nd} (hLd : Laid w) (k : Nat) (hr : Kd.C k31 w A a.f6.length a.f6) (hc : a.f6.length ≤ c) (hwt : wt a.f6 ≤ 131072) (hwe : wel a = true) (hf : incipitref06_Few.f k a.f0 a.f1 a.f2 a.f3 a.f4 a.f5 a.f6 2000 = some true) (hw : incipitref06_Well.f k a.f0 a.f1 a.f2 a.f3 a.f4 a.f5 a.f6 = some true) :
    Calls Tryd.prog 7 #[.agg (ncs a A c)] w fun e w' => e = .returned (.bool true) ∧ Below w.heap.size w w' := by
  obtain ⟨ka, hka⟩ := awake_ev.rounds
  have HX2 := Aside0.mk (bw_new w a A c)
  have HA := Aside0.mk (fun (W : World) (hW : Bw w a A c W) => incipitlaw17_awake.calls ka true W (hLd.go hW.bel) hka)
  have HF := Aside0.mk (fun (W : World) (hW : Bw w a A c W) => incipitref06_Few.calls k a.f0 a.f1 a.f2 a.f3 a.f4 a.f5 A c a.f6 2000 true W (Kd.C_below hr hW.bel) hc hf)
  have HWL := Aside0.mk (fun (W : World) (hW : Bw w a A c W) => incipitref06_Well.calls k a.f0 a.f1 a.f2 a.f3 a.f4 a.f5 A c a.f6 true W (Kd.C_below hr hW.bel) hc hw)
  have HAP := Aside0.mk (fun (W : World) (hW : Below w.heap.size w W) => apply_all (wt a.f6 + 1) a.f6 (Nat.lt_succ_self _) W A c w.heap.size (hLd.go hW) hW.size (Kd.F_step (fn_came hr) fun k hk _ => hW.block k hk) hc hwt)
  have HW2 := Aside0.mk (fun (W : World) (A' : Option Addr) (c' : Nat) (ys : List Nd) (hy : ApL a.f6 ys) (hyc : ys.length ≤ c') (hC : Kd.C k31 W A' ys.length ys) =>
    incipitref06_Well.calls (fw1 ⟨a.f0, a.f1, a.f2, a.f3, a.f4, a.f5, ys⟩ + 0) a.f0 a.f1 a.f2 a.f3 a.f4 a.f5 A' c' ys true W hC hyc (by
      have h1 := apL_ct _ _ hy
      have h2 := Well_f ⟨a.f0, a.f1, a.f2, a.f3, a.f4, a.f5, ys⟩ 0 (by rw [ct1]; omega)
      rw [wel_apply hwe hy] at h2
      exact h2))
  clear hLd hr hc hf hw hka hwt hwe
  go_enter Tryd.func7, Tryd.ntmps7
  go_wp2_with fail
  refine (HA.out _ HX2.out).mono ?_
  rintro e w3 ⟨rfl, hb3⟩
  have HX3 := Aside0.mk (HX2.out.step hb3)
  clear hb3 HX2
  obtain ⟨d0, d1, d2, d3, d4, d5, d6⟩ := ndAt HX3.out.bx
  go_wp2_with fail
  refine (HF.out _ HX3.out).mono ?_
  rintro e w4 ⟨rfl, hb4⟩
  have HX4 := Aside0.mk (HX3.out.step hb4)
  clear hb4 HX3 d0 d1 d2 d3 d4 d5 d6
  obtain ⟨d0, d1, d2, d3, d4, d5, d6⟩ := ndAt HX4.out.bx
  go_wp2_with fail
  refine (HWL.out _ HX4.out).mono ?_
  rintro e w5 ⟨rfl, hb5⟩
  have HX5 := Aside0.mk (HX4.out.step hb5)
  clear hb5 HX4 d0 d1 d2 d3 d4 d5 d6
  obtain ⟨d0, d1, d2, d3, d4, d5, d6⟩ := ndAt HX5.out.bx
  have HB6 := Aside0.mk (below_alloc (Below.refl w5.heap.size w5) (.cells (ncs a A c) 31))
  have HX6 := Aside0.mk (HX5.out.step HB6.out)
  have HK6 := Aside0.mk (heap_alloc_new w5 (.cells (ncs a A c) 31))
  obtain ⟨o, ho⟩ : ∃ o, w5.heap.size = o := ⟨_, rfl⟩
  rw [ho] at HK6
  have HO := Aside0.mk (show w.heap.size ≤ o from by rw [← ho]; exact HX5.out.bel.size)
  have HS6 := Aside0.mk (show (w5.alloc (.cells (ncs a A c) 31)).heap.size = o + 1 from by rw [World.size_alloc, ho])
  obtain ⟨w6, hw6⟩ : ∃ w6, w5.alloc (.cells (ncs a A c) 31) = w6 := ⟨_, rfl⟩
  rw [hw6] at HX6 HK6 HS6
  have HW6 := Aside0.mk hw6
  clear hw6 HB6
  have e6 := (ndAt HX6.out.bx).d6
  clear HX5
  go_upto_region 5 with fail
  rw [HW6.out]
  clear d0 d1 d2 d3 d4 d5 d6
  go_wp2_with fail
  refine (HAP.out _ HX6.out.bel).mono ?_
  rintro e w7 hq
  obtain ⟨A', c', ys, rfl, hyc, hyF, hyP⟩ := hq.res
  have hk7 := (hq.bel.block o (by have := HS6.out; omega)).trans HK6.out
  obtain ⟨d0, d1, d2, d3, d4, d5, d6⟩ := ndAt hk7
  have f6 : w7.frozen? ⟨o, 6, none⟩ = false := Lib.frozen_of_heap hk7 6
  have HK8 := Aside0.mk (blk_set hk7 6 (.slice A' ys.length c'))
  have HB8 := Aside0.mk (show Below w.heap.size w (w7.setCell ⟨o, 6, none⟩ (.slice A' ys.length c')) from by
    have h1 := below_step HX6.out.bel hq.bel
    exact ⟨h1.os, h1.tape, h1.output, by simp; exact h1.size, fun k hk => (Below.heap_setCell _ _ _ _ (by show k ≠ o; have := HO.out; omega)).trans (h1.block k hk)⟩)
  have HY := Aside0.mk (fn_now (Kd.F_step (W1 := w7.setCell ⟨o, 6, none⟩ (.slice A' ys.length c')) hyF fun k hk hlt => Below.heap_setCell _ _ _ _ (by show k ≠ o; have := HO.out; have := HS6.out; omega)))
  have HYP := Aside0.mk hyP
  have HYC := Aside0.mk hyc
  clear hq hyc hyF hyP HAP hk7
  obtain ⟨w8, hw8⟩ : ∃ w8, w7.setCell ⟨o, 6, none⟩ (.slice A' ys.length c') = w8 := ⟨_, rfl⟩
  have HW8 := Aside0.mk hw8
  rw [hw8] at HK8 HB8 HY
  have HN8 := Aside0.mk (ndAt (x := ⟨a.f0, a.f1, a.f2, a.f3, a.f4, a.f5, ys⟩) (A6 := A') (c6 := c') (by simpa using HK8.out))
  clear hw8
  go_upto_region 6 with fail
  rw [HW8.out]
  clear d0 d1 d2 d3 d4 d5 d6 f6 e6
  obtain ⟨d0, d1, d2, d3, d4, d5, d6⟩ := HN8.out
  go_wp2_with fail
  refine (HW2.out w8 A' c' ys HYP.out HYC.out HY.out).mono ?_
  rintro e w9 ⟨rfl, hb9⟩
  have HB9 := Aside0.mk (below_step HB8.out hb9)
  clear hb9
  go_wp2
  go_ret
  exact ⟨rfl, HB9.out⟩
open Classical in
/-- AutoWell in short: nodes that Few allows must be within bounds, and what Well says is what it says in plain words. -/
noncomputable def incipitlaw17_AutoWell.f (k : Nat) (a0 : S31) : Option Bool := (incipitref06_Few.f k a0.f0 a0.f1 a0.f2 a0.f3 a0.f4 a0.f5 a0.f6 2000).bind fun s => if s = true then ((incipitref06_Well.f k a0.f0 a0.f1 a0.f2 a0.f3 a0.f4 a0.f5 a0.f6).bind fun t => if t = true then (if wt a0.f6 ≤ 131072 ∧ wel a0 = true then some true else none) else some true) else some true
theorem incipitlaw17_AutoWell.calls (k : Nat) (a0 : S31) (A0 : Option Addr) (c0 : Nat) (r : Bool) (w : World) (hLd : Laid w) (hr0 : Kd.C k31 w A0 a0.f6.length a0.f6) (hc0 : a0.f6.length ≤ c0) (h : incipitlaw17_AutoWell.f k a0 = some r) :
    Calls Tryd.prog 7 #[.agg #[.int .i64 a0.f0, .string a0.f1, .string a0.f2, .int .i64 a0.f3, .int .i64 a0.f4, .bool a0.f5, .slice A0 a0.f6.length c0]] w fun e w' => e = .returned (.bool r) ∧ Below w.heap.size w w' := by
  unfold incipitlaw17_AutoWell.f at h
  obtain ⟨s, hs, h⟩ := Option.bind_eq_some_iff.1 h
  cases s with
  | false =>
    rw [if_neg (by simp)] at h
    obtain rfl := Option.some.inj h
    exact well_few hLd k hr0 hc0 hs
  | true =>
    rw [if_pos rfl] at h
    obtain ⟨t, ht, h⟩ := Option.bind_eq_some_iff.1 h
    cases t with
    | false =>
      rw [if_neg (by simp)] at h
      obtain rfl := Option.some.inj h
      exact well_not hLd k hr0 hc0 hs ht
    | true =>
      rw [if_pos rfl] at h
      split at h
      · rename_i hc
        obtain rfl := Option.some.inj h
        exact well_yes hLd k hr0 hc0 hc.1 hc.2 hs ht
      · cases h
end Go.Proofs.YtddmddlaamcpiaaDoor.PA

namespace Go.Proofs.YtddmddlaamcpiaaDoor.Pure
open Go.RowKit Go.Proofs.YtddmddlaamcpiaaDoorW.PrintWords Go.Proofs.YtddmddlaamcpiaaDoorW.PrintMore Go.Proofs.YtddmddlaamcpiaaDoor.Pl

theorem AutoWell : ∀ (a0 : PA.S31), dt1 a0 → ∃ k, PA.incipitlaw17_AutoWell.f k a0 = some true := by
  intro a0 h0
  refine ⟨fu1 a0 + fw1 a0, ?_⟩
  unfold PA.incipitlaw17_AutoWell.f
  rw [Few_f 2000 (by omega) (by omega) a0 h0 (fw1 a0), Option.bind_some]
  by_cases hh : fl1 a0 2000 ≥ 0
  · have w0 := fl1_wt (by omega) (by omega) h0 hh
    have e0 := wt1_eta a0
    have hc := ct1_wt a0
    rw [if_pos (by simp [hh]), show fu1 a0 + fw1 a0 = fw1 a0 + fu1 a0 by omega, Well_f a0 (fu1 a0) (by omega), Option.bind_some]
    cases hw : wel a0
    · rw [if_neg (by simp)]
    · rw [if_pos rfl, if_pos ⟨by omega, rfl⟩]
  · rw [if_neg (by simp [hh])]
end Go.Proofs.YtddmddlaamcpiaaDoor.Pure

namespace Go.Proofs.YtddmddlaamcpiaaDoor.autoWell
open Go.ChangeShapes Go.WideShapes Go.ChangeAt Go.RowKit Go.Proofs.YtddmddlaamcpiaaDoorW.PrintWords Go.Proofs.YtddmddlaamcpiaaDoor.RowU8
open Go.ChangeMaps (open_string shut_string)
set_option linter.unusedVariables false
set_option maxRecDepth 100000 in
theorem contract (H : Type) (enc : TypeId × Value → H) (W : World) (base : Nat) (args : Array Value) (ds gs : List (DataW H)) (before : List MemPlace)
    (hval0 : ∀ (j : Nat) t v, Tryd.f7.params[j]? = some t → args[j]? = some v → Value.okWide Tryd.prog W .any base t v)
    (hW : DataW.Whole enc Tryd.prog Tryd.f7.params.toList Rows.autoWellSpec.vars false W args.toList ds gs before) (hsz0 : (DataW.weightsEach Tryd.prog (Tryd.f7.params.toList ++ (OpenSpec.ofChange Rows.autoWellSpec).bare.plain.varTypes Tryd.prog) (ds ++ gs)).all (· ≤ reachBytes) = true) (hSh : W.ShapedOpen Tryd.prog) :
    Calls Tryd.prog 7 args W fun e W' => ∃ v, e = .returned v ∧ Rows.autoWellSpec.post enc Tryd.prog Tryd.f7 false true false false W args v W' := by
  have hsz : (DataW.weightsEach Tryd.prog (Tryd.f7.params.toList ++ Rows.autoWellSpec.plain.varTypes Tryd.prog) (ds ++ gs)).all (· ≤ reachBytes) = true := hsz0
  have hval : ∀ (j : Nat) t v, Tryd.f7.params[j]? = some t → args[j]? = some v → Value.okWide Tryd.prog W .any base t v := hval0
  have hW' := hW
  obtain ⟨p, q, hA0, hV, rfl, hfz, hnd⟩ := hW
  have hA : DataW.TrodAll enc Tryd.prog W 0 (fun _ => true) true Tryd.f7.params.toList args.toList ds p := hA0
  rw [Tryd.params7] at hA hval hsz
  obtain ⟨v0, vs0, d0, ds0, p0, q0, hargs, rfl, rfl, h0, r0⟩ := trodAll_cons hA
  obtain ⟨rfl, rfl, rfl⟩ := trodAll_nil r0
  obtain rfl : args = #[v0] := by cases args; simp_all
  obtain ⟨rfl, rfl⟩ := trodVars_none hV
  obtain ⟨cs0, rfl, _⟩ := okWide_struct Tryd.underlying31 (hval 0 31 v0 rfl rfl)
  have k0 := h0
  have lt0 : ∀ x ∈ p0, x.block < W.heap.size := by obtain ⟨m, hm⟩ := k0; exact DataW.trod_lt m _ _ _ hm
  obtain ⟨a0, A60, c60, rfl, hc0, hr0, hm0⟩ : ∃ (q : PA.S31) (A6 : Option Addr) (c6 : Nat), cs0 = #[.int .i64 q.f0, .string q.f1, .string q.f2, .int .i64 q.f3, .int .i64 q.f4, .bool q.f5, .slice A6 q.f6.length c6] ∧ q.f6.length ≤ c6 ∧ Kd.C PA.k31 W A6 q.f6.length q.f6 ∧ Pl.dt1 q := by
    obtain ⟨fuel, hf⟩ := h0
    obtain ⟨q, A6, c6, e, hc, hk, hd⟩ := node_val (fun m _ => nodes_row m) _ _ hf (fun n hn => by have := List.all_eq_true.1 hsz _ (DataW.weights_mem_each (j := 0) (t := 31) (d := d0) rfl rfl n hn); simpa using this)
    exact ⟨q, A6, c6, by cases cs0; simp_all [Value.cells], hc, hk, hd⟩
  clear hA0 hval0 hsz0 hsz
  obtain ⟨k, hp⟩ := Pure.AutoWell a0 hm0
  refine (PA.incipitlaw17_AutoWell.calls k a0 A60 c60 true W (laidOf hSh) hr0 hc0 hp).mono ?_
  rintro e W' ⟨rfl, bel⟩
  exact ⟨_, rfl, _, _, _, [], _, [], hW', trodAll_mk1 (shut_bool Tryd.underlying4 _), (trodAll_cons_mk (Below.trod laidOut (by kernel_rfl) (of_decide_eq_true (by kernel_rfl)) k0 bel lt0) trodAll_mk0), rfl, bel.frame _, fun h => by cases h⟩
theorem laid_met (os : Os) : laidMet Tryd.prog Rows.autoWellRow.laid ((laidWorld os).forCall (fun _ _ => 0) ⟨#[], #[.agg #[.int .i64 0, .string ByteArray.empty, .string ByteArray.empty, .int .i64 0, .int .i64 0, .bool false, .slice none 0 0]], []⟩).memory :=
  laidMet_of_run' 8 (by kernel_rfl) (by kernel_rfl)
theorem reads (os : Os) {H : Type} (enc : TypeId × Value → H) : ∃ places, DataW.whole enc Tryd.prog ((laidWorld os).forCall (fun _ _ => 0) ⟨#[], #[.agg #[.int .i64 0, .string ByteArray.empty, .string ByteArray.empty, .int .i64 0, .int .i64 0, .bool false, .slice none 0 0]], []⟩).memory Tryd.f7.params.toList Rows.autoWellSpec.vars false (#[.agg #[.int .i64 0, .string ByteArray.empty, .string ByteArray.empty, .int .i64 0, .int .i64 0, .bool false, .slice none 0 0]] : Array Value).toList 8 = some ([.agg [.lit (.int .i64 0), .lit (.string []), .lit (.string []), .lit (.int .i64 0), .lit (.int .i64 0), .lit (.bool false), .nil]], [], places) :=
  ⟨[], by kernel_rfl⟩
set_option maxRecDepth 100000 in
theorem lifted (os : Os) (started : os.Started) (H : Type) (enc : TypeId × Value → H) (F : Stop.Interp) :
    ReturnsInHanded {} Tryd.checked os 7 .any ((OpenSpec.ofChange Rows.autoWellSpec).preRow enc Tryd.prog Tryd.f7 Rows.autoWellRow.domain false Rows.autoWellRow.laid) (((OpenSpec.ofChange Rows.autoWellSpec).at F).post enc Tryd.prog Tryd.f7 false true false false) := by
  obtain ⟨places, hx⟩ := reads os enc
  refine returnsInHanded_of_row (C := Tryd.checked) (s := OpenSpec.ofChange Rows.autoWellSpec) own started (by kernel_rfl) Tryd.func7
    (witness_row_at (enc := enc) (C := Tryd.checked) false (laidWorld os) #[.agg #[.int .i64 0, .string ByteArray.empty, .string ByteArray.empty, .int .i64 0, .int .i64 0, .bool false, .slice none 0 0]] rfl (by kernel_rfl) (by kernel_rfl) (by kernel_rfl)
      (OpenSpec.preRow_of_cond 8 hx (by kernel_rfl) (fun k hk => by cases hk) (by kernel_rfl) (laid_met os))) ?_
  intro W base args ds gs before hval hW _ _ hsz hL hSh _
  exact contract H enc W base args ds gs before hval hW hsz hSh
theorem said : Rows.AutoWellSaid :=
  OpenClaim.holds_of_cond 7 Tryd.f7 rfl rfl rfl rfl rfl rfl rfl ⟨rfl, rfl, rfl, rfl, rfl⟩ rfl rfl rfl rfl rfl (by kernel_rfl) Tryd.func7 (by kernel_rfl)
    (of_decide_eq_true (by kernel_rfl)) (by unfold Func.isWrapper; first | (rw [if_pos (by decide +kernel)]; kernel_rfl) | (rw [if_neg (by decide +kernel)]; exact ⟨rfl, rfl⟩))
    (fun os started H enc _ F => by rw [OpenClaim.pre_eq_preRow]; exact lifted os started H enc F)
theorem plain (f : FuncId) (fn : Func) (hf : Tryd.pinned.checked.prog.funcNamed "incipit/incipitlaw17.AutoWell" = some f) (hfn : Tryd.pinned.checked.prog.funcs[f]? = some fn) :
    false = Tryd.pinned.checked.prog.looks [] ∧ ∀ (j : Nat) t, fn.params[j]? = some t → Tryd.pinned.checked.prog.wantsStandIn t = false := by
  obtain rfl : f = 7 := Option.some.inj ((show Tryd.prog.funcNamed "incipit/incipitlaw17.AutoWell" = some 7 by kernel_rfl).symm.trans hf) |>.symm
  obtain rfl : fn = Tryd.f7 := (Option.some.inj (Tryd.func7.symm.trans hfn)).symm
  refine ⟨by kernel_rfl, fun j t ht => ?_⟩
  rw [Tryd.params7] at ht
  have hall : ∀ t ∈ (#[31] : Array Nat), Tryd.prog.wantsStandIn t = false := by
    intro t ht
    simp at ht
    subst ht
    exact (show Tryd.prog.wantsStandIn 31 = false by kernel_rfl)
  exact hall t (Array.mem_of_getElem? ht)
theorem card : Rows.AutoWellCardSaid :=
  Claim7.holds_tied_plain_at .later [] _ _ _ _ said (fun _ h => by cases h) (by kernel_rfl) (fun _ h => by cases h) autoWell_row_tie rfl ⟨rfl, rfl⟩ (by kernel_rfl) rfl plain (by kernel_rfl)
end Go.Proofs.YtddmddlaamcpiaaDoor.autoWell
namespace Go.Proofs.YtddmddlaamcpiaaDoor
/-- The statement, under a short name, for the claim. -/
theorem autoWell_holds : Rows.AutoWellCardSaid := autoWell.card
end Go.Proofs.YtddmddlaamcpiaaDoor
