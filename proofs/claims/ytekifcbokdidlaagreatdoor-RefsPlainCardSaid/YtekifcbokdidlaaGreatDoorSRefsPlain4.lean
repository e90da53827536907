/-
  Texts of the proof of RefsPlain, part 4 of 6: contracts and plain laws. Conditions: see each statement.
-/
import Derived.Test.YtekifcbokdidlaaGreatDoorSRefsPlain1
import Derived.Test.YtekifcbokdidlaaGreatDoorSRefsPlain2
import Derived.Test.YtekifcbokdidlaaGreatDoorSRefsPlain3
import Derived.Shelf.SlicesQ.IndexFunc
import Derived.Shelf.SlGeneric
import Derived.OneCell
import Derived.RangeFuncBox
import Derived.RangeFuncNested
import Derived.RangeFuncBound
import Derived.RangeFuncCalls
import Derived.RangeFuncLeaves
import Derived.Maps.AppendAt
import Derived.Shelf.Abstract
import Derived.Shelf.RegionOpen
import Derived.WalkKit
import Derived.OwnWalkIn
import Derived.TacticsInMore
import Derived.LoopNIn
import Derived.LoopIn
import Derived.Lib.Hide
import Derived.BigCall
set_option linter.unusedVariables false
namespace Go.Proofs.YtekifcbokdidlaaGreatDoor.PA
open Go.RowKit Go.Proofs.YtekifcbokdidlaaGreatDoorW.PrintWords Go.Proofs.YtekifcbokdidlaaGreatDoorW.PrintLast Go.Proofs.YtekifcbokdidlaaGreatDoorW.PrintMore
attribute [local go_sem] max2_int min2_int max_two min_two max_three min_three max_four min_four   -- for this text's walks alone
set_option linter.unusedVariables false
set_option linter.unusedSimpArgs false






/-! ### link_White: function 47 -/
def link_White.f (a0 : ByteArray) : Option (Int) := (strings_TrimLeft.f a0 (⟨#[32,9,10]⟩ : ByteArray)).bind fun t101 => (some (wrap64 ((a0.size : Int) - (t101.size : Int))))
set_option maxHeartbeats 8000000 in
set_option maxRecDepth 100000 in
theorem link_White.calls (a0 : ByteArray) (r : Int) (w : World) (h : link_White.f a0 = some r) :
    Calls Tryz.prog 47 #[.string a0] w fun e w' => e = .returned (.int .i64 r) ∧ Below w.heap.size w w' := by
  have HB := Aside0.mk (Below.refl w.heap.size w)
  have H : ((strings_TrimLeft.f a0 (⟨#[32,9,10]⟩ : ByteArray)).bind fun t101 => (some (wrap64 ((a0.size : Int) - (t101.size : Int))))) = some r := h
  clear h
  replace H := Option.bind_eq_some_iff.mp H
  obtain ⟨t101,A20,H⟩ := H
  replace H : (some (wrap64 ((a0.size : Int) - (t101.size : Int)))) = some r := H
  have A2 := Aside0.mk A20
  clear A20
  obtain rfl := Option.some.inj H
  go_enter Tryz.func47,Tryz.ntmps47
  go_wp2_with (first | ((with_reducible refine gate_callee (f := 54) rfl ?_);refine goesL_ (some 6) rfl rfl Tryz.func54 (by kernel_rfl) rfl #[.string a0,.string (⟨#[32,9,10]⟩ : ByteArray)] rfl (by (try simp only [List.map_toArray,List.map_cons,List.map_nil]);first | done | rfl | (simp only [List.length_drop,List.length_take];rfl)) ?_;(with_reducible refine (strings_TrimLeft.calls a0 (⟨#[32,9,10]⟩ : ByteArray) t101 _ A2.out).mono ?_);rintro e w3 ⟨rfl,hb⟩;refine ⟨_,rfl,?_⟩;have n0_ := Aside0.mk (below_step (by repeat (first | (with_reducible first | exact HB.out | apply below_alloc | apply pw_below_drewN | apply below_drew1) | exact HB.out)) hb);clear HB;have HB := n0_;clear n0_;(try clear hb);(try clear hb2);(try clear hk);(try clear hi)))
  go_ret
  exact ⟨by first | rfl | exact retNe _ | (simp [errW_none,errW_some] <;> rfl) | (simp [*,errW_none,errW_some] <;> rfl),by repeat (first | (with_reducible first | exact HB.out | apply below_alloc | apply pw_below_drewN | apply below_drew1) | exact HB.out)⟩


end Go.Proofs.YtekifcbokdidlaaGreatDoor.PA
namespace Go.Proofs.YtekifcbokdidlaaGreatDoor.PA
open Go.RowKit Go.Proofs.YtekifcbokdidlaaGreatDoorW.PrintWords Go.Proofs.YtekifcbokdidlaaGreatDoorW.PrintLast Go.Proofs.YtekifcbokdidlaaGreatDoorW.PrintMore
attribute [local go_sem] max2_int min2_int max_two min_two max_three min_three max_four min_four   -- for this text's walks alone
set_option linter.unusedVariables false
set_option linter.unusedSimpArgs false






/-! ### refs_gap: function 28 -/
def refs_gap.f (a0 : ByteArray) : Option (Int × Bool) := (link_White.f a0).bind fun t102 => (if 0 ≤ t102 then (if t102 ≤ (a0.size : Int) then ((strings_Count.f (a0.extract 0 (t102 : Int).toNat) (⟨#[10]⟩ : ByteArray)).bind fun t103 => (some (t102,decide (t103 ≤ 1)))) else (none)) else (none))
set_option maxHeartbeats 8000000 in
set_option maxRecDepth 100000 in
theorem refs_gap.calls (a0 : ByteArray) (r1 : Int) (r2 : Bool) (w : World) (h : refs_gap.f a0 = some (r1,r2)) :
    Calls Tryz.prog 28 #[.string a0] w fun e w' => e = .returned (.tuple #[.int .i64 r1,.bool r2]) ∧ Below w.heap.size w w' := by
  have HB := Aside0.mk (Below.refl w.heap.size w)
  have H : ((link_White.f a0).bind fun t102 => (if 0 ≤ t102 then (if t102 ≤ (a0.size : Int) then ((strings_Count.f (a0.extract 0 (t102 : Int).toNat) (⟨#[10]⟩ : ByteArray)).bind fun t103 => (some (t102,decide (t103 ≤ 1)))) else (none)) else (none))) = some (r1,r2) := h
  clear h
  replace H := Option.bind_eq_some_iff.mp H
  obtain ⟨t102,A20,H⟩ := H
  replace H : (if 0 ≤ t102 then (if t102 ≤ (a0.size : Int) then ((strings_Count.f (a0.extract 0 (t102 : Int).toNat) (⟨#[10]⟩ : ByteArray)).bind fun t103 => (some (t102,decide (t103 ≤ 1)))) else (none)) else (none)) = some (r1,r2) := H
  have A2 := Aside0.mk A20
  clear A20
  by_cases c3 : 0 ≤ t102
  · rw [if_pos c3] at H
    have c3b0 := eq_true c3
    have c3b1 : decide (0 ≤ t102) = true := decide_eq_true c3
    clear c3
    by_cases c4 : t102 ≤ (a0.size : Int)
    · rw [if_pos c4] at H
      have c4b0 := eq_true c4
      have c4b1 : decide (t102 ≤ (a0.size : Int)) = true := decide_eq_true c4
      clear c4
      replace H := Option.bind_eq_some_iff.mp H
      obtain ⟨t103,A50,H⟩ := H
      replace H : (some (t102,decide (t103 ≤ 1))) = some (r1,r2) := H
      have A5 := Aside0.mk A50
      clear A50
      simp only [Option.some.injEq,Prod.mk.injEq] at H
      obtain ⟨rfl,rfl⟩ := H
      go_enter Tryz.func28,Tryz.ntmps28
      go_wp2_with (first | ((with_reducible refine gate_callee (f := 47) rfl ?_);refine goesL_ (some 6) rfl rfl Tryz.func47 (by kernel_rfl) rfl #[.string a0] rfl (by (try simp only [List.map_toArray,List.map_cons,List.map_nil]);first | done | rfl | (simp only [List.length_drop,List.length_take];rfl)) ?_;(with_reducible refine (link_White.calls a0 t102 _ A2.out).mono ?_);rintro e w6 ⟨rfl,hb⟩;refine ⟨_,rfl,?_⟩;have n0_ := Aside0.mk (below_step (by repeat (first | (with_reducible first | exact HB.out | apply below_alloc | apply pw_below_drewN | apply below_drew1) | exact HB.out)) hb);clear HB;have HB := n0_;clear n0_;(try clear hb);(try clear hb2);(try clear hk);(try clear hi)) | ((with_reducible refine gate_callee (f := 49) rfl ?_);refine goesL_ (some 11) rfl rfl Tryz.func49 (by kernel_rfl) rfl #[.string (a0.extract 0 (t102 : Int).toNat),.string (⟨#[10]⟩ : ByteArray)] rfl (by (try simp only [List.map_toArray,List.map_cons,List.map_nil]);first | done | rfl | (simp only [List.length_drop,List.length_take];rfl)) ?_;(with_reducible refine (strings_Count.calls (a0.extract 0 (t102 : Int).toNat) (⟨#[10]⟩ : ByteArray) t103 _ A5.out).mono ?_);rintro e w' ⟨rfl,⟨nd,rfl⟩⟩;refine ⟨_,rfl,?_⟩))
      go_ret2
      exact ⟨by first | rfl | exact retNe _ | (simp [errW_none,errW_some] <;> rfl) | (simp [*,errW_none,errW_some] <;> rfl),by repeat (first | (with_reducible first | exact HB.out | apply below_alloc | apply pw_below_drewN | apply below_drew1) | exact HB.out)⟩
    · rw [if_neg c4] at H
      exact absurd H (by simp)
  · rw [if_neg c3] at H
    exact absurd H (by simp)


end Go.Proofs.YtekifcbokdidlaaGreatDoor.PA
namespace Go.Proofs.YtekifcbokdidlaaGreatDoor.PA
open Go.RowKit Go.Proofs.YtekifcbokdidlaaGreatDoorW.PrintWords Go.Proofs.YtekifcbokdidlaaGreatDoorW.PrintLast Go.Proofs.YtekifcbokdidlaaGreatDoorW.PrintMore
attribute [local go_sem] max2_int min2_int max_two min_two max_three min_three max_four min_four   -- for this text's walks alone
set_option linter.unusedVariables false
set_option linter.unusedSimpArgs false






/-! ### refs_end: function 31 -/
def refs_end.f (a0 : ByteArray) : Option (Int × Bool) := (strings_TrimLeft.f a0 (⟨#[32,9]⟩ : ByteArray)).bind fun t104 => (if t104.toList = ([] : List UInt8) then (some (wrap64 ((a0.size : Int) - (t104.size : Int)),true)) else (if 0 < (t104.size : Int) then (if (bt t104 0) = 10 then (some (wrap64 ((wrap64 ((a0.size : Int) - (t104.size : Int))) + 1),true)) else (some (0,false))) else (none)))
set_option maxHeartbeats 8000000 in
set_option maxRecDepth 100000 in
theorem refs_end.calls (a0 : ByteArray) (r1 : Int) (r2 : Bool) (w : World) (h : refs_end.f a0 = some (r1,r2)) :
    Calls Tryz.prog 31 #[.string a0] w fun e w' => e = .returned (.tuple #[.int .i64 r1,.bool r2]) ∧ Below w.heap.size w w' := by
  have HB := Aside0.mk (Below.refl w.heap.size w)
  have H : ((strings_TrimLeft.f a0 (⟨#[32,9]⟩ : ByteArray)).bind fun t104 => (if t104.toList = ([] : List UInt8) then (some (wrap64 ((a0.size : Int) - (t104.size : Int)),true)) else (if 0 < (t104.size : Int) then (if (bt t104 0) = 10 then (some (wrap64 ((wrap64 ((a0.size : Int) - (t104.size : Int))) + 1),true)) else (some (0,false))) else (none)))) = some (r1,r2) := h
  clear h
  replace H := Option.bind_eq_some_iff.mp H
  obtain ⟨t104,A20,H⟩ := H
  replace H : (if t104.toList = ([] : List UInt8) then (some (wrap64 ((a0.size : Int) - (t104.size : Int)),true)) else (if 0 < (t104.size : Int) then (if (bt t104 0) = 10 then (some (wrap64 ((wrap64 ((a0.size : Int) - (t104.size : Int))) + 1),true)) else (some (0,false))) else (none))) = some (r1,r2) := H
  have A2 := Aside0.mk A20
  clear A20
  by_cases c3 : t104.toList = ([] : List UInt8)
  · rw [if_pos c3] at H
    have c3b0 : (t104.toList == ([] : List UInt8)) = true := beq_iff_eq.mpr c3
    have c3b1 : (t104.toList != ([] : List UInt8)) = false := bne_eq_false_iff_eq.mpr c3
    clear c3
    simp only [Option.some.injEq,Prod.mk.injEq] at H
    obtain ⟨rfl,rfl⟩ := H
    go_enter Tryz.func31,Tryz.ntmps31
    go_wp2_with (first | ((with_reducible refine gate_callee (f := 54) rfl ?_);refine goesL_ (some 7) rfl rfl Tryz.func54 (by kernel_rfl) rfl #[.string a0,.string (⟨#[32,9]⟩ : ByteArray)] rfl (by (try simp only [List.map_toArray,List.map_cons,List.map_nil]);first | done | rfl | (simp only [List.length_drop,List.length_take];rfl)) ?_;(with_reducible refine (strings_TrimLeft.calls a0 (⟨#[32,9]⟩ : ByteArray) t104 _ A2.out).mono ?_);rintro e w4 ⟨rfl,hb⟩;refine ⟨_,rfl,?_⟩;have n0_ := Aside0.mk (below_step (by repeat (first | (with_reducible first | exact HB.out | apply below_alloc | apply pw_below_drewN | apply below_drew1) | exact HB.out)) hb);clear HB;have HB := n0_;clear n0_;(try clear hb);(try clear hb2);(try clear hk);(try clear hi)))
    go_ret2
    exact ⟨by first | rfl | exact retNe _ | (simp [errW_none,errW_some] <;> rfl) | (simp [*,errW_none,errW_some] <;> rfl),by repeat (first | (with_reducible first | exact HB.out | apply below_alloc | apply pw_below_drewN | apply below_drew1) | exact HB.out)⟩
  · rw [if_neg c3] at H
    have c3b0 : (t104.toList == ([] : List UInt8)) = false := beq_eq_false_iff_ne.mpr c3
    have c3b1 : (t104.toList != ([] : List UInt8)) = true := bne_iff_ne.mpr c3
    by_cases c5 : 0 < (t104.size : Int)
    · rw [if_pos c5] at H
      have c5b0 : decide (0 < (t104.size : Int)) = true := decide_eq_true c5
      have c5b1 : decide (0 < t104.size) = true := decide_eq_true (by omega)
      clear c5
      by_cases c7 : (bt t104 0) = 10
      · rw [if_pos c7] at H
        have c7b0 : ((bt t104 0) == 10) = true := beq_iff_eq.mpr c7
        have c7b1 : ((bt t104 0) != 10) = false := bne_eq_false_iff_eq.mpr c7
        clear c7
        simp only [Option.some.injEq,Prod.mk.injEq] at H
        obtain ⟨rfl,rfl⟩ := H
        go_enter Tryz.func31,Tryz.ntmps31
        go_wp2_with (first | ((with_reducible refine gate_callee (f := 54) rfl ?_);refine goesL_ (some 7) rfl rfl Tryz.func54 (by kernel_rfl) rfl #[.string a0,.string (⟨#[32,9]⟩ : ByteArray)] rfl (by (try simp only [List.map_toArray,List.map_cons,List.map_nil]);first | done | rfl | (simp only [List.length_drop,List.length_take];rfl)) ?_;(with_reducible refine (strings_TrimLeft.calls a0 (⟨#[32,9]⟩ : ByteArray) t104 _ A2.out).mono ?_);rintro e w8 ⟨rfl,hb⟩;refine ⟨_,rfl,?_⟩;have n0_ := Aside0.mk (below_step (by repeat (first | (with_reducible first | exact HB.out | apply below_alloc | apply pw_below_drewN | apply below_drew1) | exact HB.out)) hb);clear HB;have HB := n0_;clear n0_;(try clear hb);(try clear hb2);(try clear hk);(try clear hi);have p6 : 0 ≤ (0 : Int) := (by omega);have q6 : 0 < t104.size := (by have : (0 : Int) < (t104.size : Int) := of_decide_eq_true (by first | (with_reducible assumption) | assumption);omega);have hx6 : ∀ h : 0 < t104.size,((t104[0]'h).toNat : Int) = bt t104 0 := bt_at t104 0;clear p6;have qi6 : (0 < (t104.size : Int)) = True := eq_true (of_decide_eq_true (by first | (with_reducible assumption) | assumption));replace q6 := eq_true q6))
        go_ret2
        exact ⟨by first | rfl | exact retNe _ | (simp [errW_none,errW_some] <;> rfl) | (simp [*,errW_none,errW_some] <;> rfl),by repeat (first | (with_reducible first | exact HB.out | apply below_alloc | apply pw_below_drewN | apply below_drew1) | exact HB.out)⟩
      · rw [if_neg c7] at H
        have c7b0 : ((bt t104 0) == 10) = false := beq_eq_false_iff_ne.mpr c7
        have c7b1 : ((bt t104 0) != 10) = true := bne_iff_ne.mpr c7
        simp only [Option.some.injEq,Prod.mk.injEq] at H
        obtain ⟨rfl,rfl⟩ := H
        go_enter Tryz.func31,Tryz.ntmps31
        go_wp2_with (first | ((with_reducible refine gate_callee (f := 54) rfl ?_);refine goesL_ (some 7) rfl rfl Tryz.func54 (by kernel_rfl) rfl #[.string a0,.string (⟨#[32,9]⟩ : ByteArray)] rfl (by (try simp only [List.map_toArray,List.map_cons,List.map_nil]);first | done | rfl | (simp only [List.length_drop,List.length_take];rfl)) ?_;(with_reducible refine (strings_TrimLeft.calls a0 (⟨#[32,9]⟩ : ByteArray) t104 _ A2.out).mono ?_);rintro e w9 ⟨rfl,hb⟩;refine ⟨_,rfl,?_⟩;have n0_ := Aside0.mk (below_step (by repeat (first | (with_reducible first | exact HB.out | apply below_alloc | apply pw_below_drewN | apply below_drew1) | exact HB.out)) hb);clear HB;have HB := n0_;clear n0_;(try clear hb);(try clear hb2);(try clear hk);(try clear hi);have p6 : 0 ≤ (0 : Int) := (by omega);have q6 : 0 < t104.size := (by have : (0 : Int) < (t104.size : Int) := of_decide_eq_true (by first | (with_reducible assumption) | assumption);omega);have hx6 : ∀ h : 0 < t104.size,((t104[0]'h).toNat : Int) = bt t104 0 := bt_at t104 0;clear p6;have qi6 : (0 < (t104.size : Int)) = True := eq_true (of_decide_eq_true (by first | (with_reducible assumption) | assumption));replace q6 := eq_true q6))
        go_ret2
        exact ⟨by first | rfl | exact retNe _ | (simp [errW_none,errW_some] <;> rfl) | (simp [*,errW_none,errW_some] <;> rfl),by repeat (first | (with_reducible first | exact HB.out | apply below_alloc | apply pw_below_drewN | apply below_drew1) | exact HB.out)⟩
    · rw [if_neg c5] at H
      exact absurd H (by simp)


end Go.Proofs.YtekifcbokdidlaaGreatDoor.PA
namespace Go.Proofs.YtekifcbokdidlaaGreatDoor.PA
open Go.RowKit Go.Proofs.YtekifcbokdidlaaGreatDoorW.PrintWords Go.Proofs.YtekifcbokdidlaaGreatDoorW.PrintLast Go.Proofs.YtekifcbokdidlaaGreatDoorW.PrintMore
attribute [local go_sem] max2_int min2_int max_two min_two max_three min_three max_four min_four   -- for this text's walks alone
set_option linter.unusedVariables false
set_option linter.unusedSimpArgs false






/-! ### refs_titled: function 30 -/
def refs_titled.j0 : Nat → ByteArray → Int → Bool → Option (ByteArray × Int × Bool)
  | 0,_,_,_ => none
  | k + 1,x0,x5,x20 => if x20 = true then (some ((⟨#[]⟩ : ByteArray),0,false)) else (if 0 ≤ x5 then (if x5 ≤ (x0.size : Int) then ((link_Title.f (x0.extract (x5 : Int).toNat x0.size)).bind fun bt107 => (if bt107.2 = 0 then (some ((⟨#[]⟩ : ByteArray),0,false)) else (if 0 ≤ (wrap64 (x5 + bt107.2)) then (if (wrap64 (x5 + bt107.2)) ≤ (x0.size : Int) then ((refs_end.f (x0.extract ((wrap64 (x5 + bt107.2)) : Int).toNat x0.size)).bind fun bt109 => (some (bt107.1,wrap64 ((wrap64 (x5 + bt107.2)) + bt109.1),bt109.2))) else (none)) else (none)))) else (none)) else (none))
def refs_titled.f (k : Nat) (a0 : ByteArray) : Option (ByteArray × Int × Bool) := (refs_gap.f a0).bind fun bt105 => (if bt105.2 = true then (refs_titled.j0 k a0 bt105.1 (bt105.1 == 0)) else (refs_titled.j0 k a0 bt105.1 true))
theorem refs_titled.mono_l : ∀ k,(∀ y0 y1 y2,LeO (refs_titled.j0 k y0 y1 y2) (refs_titled.j0 (k + 1) y0 y1 y2))
  | 0 => fun _ _ _ r h => by simp [refs_titled.j0] at h
  | k + 1 => by
    have ih0 := refs_titled.mono_l k
    · intro y0 y1 y2
      unfold refs_titled.j0
      repeat' first
      | (with_reducible exact ih0 _ _ _)
      | (with_reducible exact LeO.refl _)
      | (with_reducible exact LeO.none _)
      | (with_reducible refine LeO.ite ?_ ?_)
      | (with_reducible refine LeO.bind ?_ (fun _ => ?_))
      | exact ih0 _ _ _
      | exact LeO.none _
      | refine LeO.ite ?_ ?_
      | refine LeO.bind ?_ (fun _ => ?_)
theorem refs_titled.mono : ∀ a0 k,LeO (refs_titled.f k a0) (refs_titled.f (k + 1) a0) := by
  intro a0 k
  have ih0 := refs_titled.mono_l k
  unfold refs_titled.f
  repeat' first
      | (with_reducible exact ih0 _ _ _)
      | (with_reducible exact LeO.refl _)
      | (with_reducible exact LeO.none _)
      | (with_reducible refine LeO.ite ?_ ?_)
      | (with_reducible refine LeO.bind ?_ (fun _ => ?_))
      | exact ih0 _ _ _
      | exact LeO.none _
      | refine LeO.ite ?_ ?_
      | refine LeO.bind ?_ (fun _ => ?_)
set_option maxHeartbeats 8000000 in
set_option maxRecDepth 100000 in
theorem refs_titled.calls (k : Nat) (a0 : ByteArray) (r1 : ByteArray) (r2 : Int) (r3 : Bool) (w : World) (hLd : Laid w) (h : refs_titled.f k a0 = some (r1,r2,r3)) :
    Calls Tryz.prog 30 #[.string a0] w fun e w' => e = .returned (.tuple #[.string r1,.int .i64 r2,.bool r3]) ∧ Below w.heap.size w w' := by
  have HB := Aside0.mk (Below.refl w.heap.size w)
  have H : ((refs_gap.f a0).bind fun bt105 => (if bt105.2 = true then (refs_titled.j0 k a0 bt105.1 (bt105.1 == 0)) else (refs_titled.j0 k a0 bt105.1 true))) = some (r1,r2,r3) := h
  clear h
  replace H := Option.bind_eq_some_iff.mp H
  obtain ⟨⟨t105,t106⟩,A20,H⟩ := H
  replace H : (if t106 = true then (refs_titled.j0 k a0 t105 (t105 == 0)) else (refs_titled.j0 k a0 t105 true)) = some (r1,r2,r3) := H
  have A2 := Aside0.mk A20
  clear A20
  have HC3 := Aside0.mk H
  clear H
  go_enter Tryz.func30,Tryz.ntmps30
  go_upto_region 2 with (first | ((with_reducible refine gate_callee (f := 28) rfl ?_);refine goesL_ (some 12) rfl rfl Tryz.func28 (by kernel_rfl) rfl #[.string a0] rfl (by (try simp only [List.map_toArray,List.map_cons,List.map_nil]);first | done | rfl | (simp only [List.length_drop,List.length_take];rfl)) ?_;(with_reducible refine (refs_gap.calls a0 t105 t106 _ A2.out).mono ?_);rintro e w4 ⟨rfl,hb⟩;refine ⟨_,rfl,?_⟩;have n0_ := Aside0.mk (below_step (by repeat (first | (with_reducible first | exact HB.out | apply below_alloc | apply pw_below_drewN | apply below_drew1) | exact HB.out)) hb);clear HB;have HB := n0_;clear n0_;(try clear hb);(try clear hb2);(try clear hk);(try clear hi)))
  (try simp only [Act.put,List.setIfInBounds_toArray,List.set_cons_zero,List.set_cons_succ])
  go_cut [20] (fun v20 wc => ∃ (kq : Nat) (x20_2 : Bool),v20 = .bool x20_2 ∧ Aside0 (refs_titled.j0 kq a0 t105 x20_2 = some (r1,r2,r3)) ∧ Aside0 (kq ≤ k) ∧ Aside0 (Below w.heap.size w wc))
  case first =>
    have H := HC3.out
    clear HC3
    by_cases c5 : t106 = true
    · subst c5
      have H1 : (refs_titled.j0 k a0 t105 (t105 == 0)) = some (r1,r2,r3) := by rw [if_pos rfl] at H;exact H
      clear H
      have H := H1
      clear H1
      have H' := Aside0.mk H
      clear H
      go_wp2
      go_meet
      case rel => exact ⟨_,((t105 == 0)),(by first | rfl | (simp;done) | (simp [*];done)),H',⟨by first | omega | exact Nat.le_refl _⟩,⟨by repeat (first | (with_reducible first | exact HB.out | apply below_alloc | apply pw_below_drewN | apply below_drew1) | exact HB.out)⟩⟩
    · replace c5 := Bool.eq_false_iff.mpr c5
      subst c5
      have H1 : (refs_titled.j0 k a0 t105 true) = some (r1,r2,r3) := by rw [if_neg (show ¬ (false = true) by decide)] at H;exact H
      clear H
      have H := H1
      clear H1
      have H' := Aside0.mk H
      clear H
      go_wp2
      go_meet
      case rel => exact ⟨_,(true),(by first | rfl | (simp;done) | (simp [*];done)),H',⟨by first | omega | exact Nat.le_refl _⟩,⟨by repeat (first | (with_reducible first | exact HB.out | apply below_alloc | apply pw_below_drewN | apply below_drew1) | exact HB.out)⟩⟩
  case rest =>
    clear HC3
    try clear c2
    try clear p2
    try clear c3
    try clear c5
    obtain ⟨kq,x20_2,rfl,HA,HJ2,HB⟩ := hcut
    cases kq with
    | zero => exact absurd HA.out (by simp [refs_titled.j0])
    | succ kj2 =>
      have H := HA.out
      clear HA
      simp only [refs_titled.j0] at H
      by_cases c6 : x20_2 = true
      · subst c6
        have H1 : (some ((⟨#[]⟩ : ByteArray),0,false)) = some (r1,r2,r3) := by rw [if_pos rfl] at H;exact H
        clear H
        have H := H1
        clear H1
        simp only [Option.some.injEq,Prod.mk.injEq] at H
        obtain ⟨rfl,rfl,rfl⟩ := H
        go_wp2
        go_ret3
        exact ⟨by first | rfl | exact retNe _ | (simp [errW_none,errW_some] <;> rfl) | (simp [*,errW_none,errW_some] <;> rfl),by repeat (first | (with_reducible first | exact HB.out | apply below_alloc | apply pw_below_drewN | apply below_drew1) | exact HB.out)⟩
      · replace c6 := Bool.eq_false_iff.mpr c6
        subst c6
        have H1 : (if 0 ≤ t105 then (if t105 ≤ (a0.size : Int) then ((link_Title.f (a0.extract (t105 : Int).toNat a0.size)).bind fun bt107 => (if bt107.2 = 0 then (some ((⟨#[]⟩ : ByteArray),0,false)) else (if 0 ≤ (wrap64 (t105 + bt107.2)) then (if (wrap64 (t105 + bt107.2)) ≤ (a0.size : Int) then ((refs_end.f (a0.extract ((wrap64 (t105 + bt107.2)) : Int).toNat a0.size)).bind fun bt109 => (some (bt107.1,wrap64 ((wrap64 (t105 + bt107.2)) + bt109.1),bt109.2))) else (none)) else (none)))) else (none)) else (none)) = some (r1,r2,r3) := by rw [if_neg (show ¬ (false = true) by decide)] at H;exact H
        clear H
        have H := H1
        clear H1
        by_cases c7 : 0 ≤ t105
        · rw [if_pos c7] at H
          have c7b0 := eq_true c7
          have c7b1 : decide (0 ≤ t105) = true := decide_eq_true c7
          clear c7
          by_cases c8 : t105 ≤ (a0.size : Int)
          · rw [if_pos c8] at H
            have c8b0 := eq_true c8
            have c8b1 : decide (t105 ≤ (a0.size : Int)) = true := decide_eq_true c8
            clear c8
            replace H := Option.bind_eq_some_iff.mp H
            obtain ⟨⟨t107,t108⟩,A90,H⟩ := H
            replace H : (if t108 = 0 then (some ((⟨#[]⟩ : ByteArray),0,false)) else (if 0 ≤ (wrap64 (t105 + t108)) then (if (wrap64 (t105 + t108)) ≤ (a0.size : Int) then ((refs_end.f (a0.extract ((wrap64 (t105 + t108)) : Int).toNat a0.size)).bind fun bt109 => (some (t107,wrap64 ((wrap64 (t105 + t108)) + bt109.1),bt109.2))) else (none)) else (none))) = some (r1,r2,r3) := H
            have A9 := Aside0.mk A90
            clear A90
            by_cases c10 : t108 = 0
            · rw [if_pos c10] at H
              have c10b0 : (t108 == 0) = true := beq_iff_eq.mpr c10
              have c10b1 : (t108 != 0) = false := bne_eq_false_iff_eq.mpr c10
              clear c10
              simp only [Option.some.injEq,Prod.mk.injEq] at H
              obtain ⟨rfl,rfl,rfl⟩ := H
              go_wp2_with (first | ((with_reducible refine gate_callee (f := 53) rfl ?_);refine goesL_ (some 25) rfl rfl Tryz.func53 (by kernel_rfl) rfl #[.string (a0.extract (t105 : Int).toNat a0.size)] rfl (by (try simp only [List.map_toArray,List.map_cons,List.map_nil]);first | done | rfl | (simp only [List.length_drop,List.length_take];rfl)) ?_;(with_reducible refine (link_Title.calls (a0.extract (t105 : Int).toNat a0.size) t107 t108 _ ?side1 A9.out).mono ?_);(case side1 => exact Laid.go hLd (by repeat (first | (with_reducible first | exact HB.out | apply below_alloc | apply pw_below_drewN | apply below_drew1) | exact HB.out)));rintro e w11 ⟨rfl,hb⟩;refine ⟨_,rfl,?_⟩;have n0_ := Aside0.mk (below_step (by repeat (first | (with_reducible first | exact HB.out | apply below_alloc | apply pw_below_drewN | apply below_drew1) | exact HB.out)) hb);clear HB;have HB := n0_;clear n0_;(try clear hb);(try clear hb2);(try clear hk);(try clear hi)))
              go_ret3
              exact ⟨by first | rfl | exact retNe _ | (simp [errW_none,errW_some] <;> rfl) | (simp [*,errW_none,errW_some] <;> rfl),by repeat (first | (with_reducible first | exact HB.out | apply below_alloc | apply pw_below_drewN | apply below_drew1) | exact HB.out)⟩
            · rw [if_neg c10] at H
              have c10b0 : (t108 == 0) = false := beq_eq_false_iff_ne.mpr c10
              have c10b1 : (t108 != 0) = true := bne_iff_ne.mpr c10
              obtain ⟨ji12,hji12⟩ : ∃ j_ : Int,(wrap64 (t105 + t108)) = j_ := ⟨_,rfl⟩
              replace H : (if 0 ≤ (ji12) then (if (ji12) ≤ (a0.size : Int) then ((refs_end.f (a0.extract ((ji12) : Int).toNat a0.size)).bind fun bt109 => (some (t107,wrap64 ((ji12) + bt109.1),bt109.2))) else (none)) else (none)) = some (r1,r2,r3) := by first | (rw [hji12] at H;exact H) | (simp only [hji12] at H ⊢;exact H)
              (try rw [hji12] at A9)
              have hji12w : (IntKind.i64.wrap (t105 + t108)) = ji12 := (i64_w _).trans hji12
              by_cases c13 : 0 ≤ (ji12)
              · rw [if_pos c13] at H
                have c13b0 := eq_true c13
                have c13b1 : decide (0 ≤ (ji12)) = true := decide_eq_true c13
                clear c13
                by_cases c14 : (ji12) ≤ (a0.size : Int)
                · rw [if_pos c14] at H
                  have c14b0 := eq_true c14
                  have c14b1 : decide ((ji12) ≤ (a0.size : Int)) = true := decide_eq_true c14
                  clear c14
                  replace H := Option.bind_eq_some_iff.mp H
                  obtain ⟨⟨t109,t110⟩,A150,H⟩ := H
                  replace H : (some (t107,wrap64 ((ji12) + t109),t110)) = some (r1,r2,r3) := H
                  have A15 := Aside0.mk A150
                  clear A150
                  simp only [Option.some.injEq,Prod.mk.injEq] at H
                  obtain ⟨rfl,rfl,rfl⟩ := H
                  go_wp2_with (first | ((with_reducible refine gate_callee (f := 53) rfl ?_);refine goesL_ (some 25) rfl rfl Tryz.func53 (by kernel_rfl) rfl #[.string (a0.extract (t105 : Int).toNat a0.size)] rfl (by (try simp only [List.map_toArray,List.map_cons,List.map_nil]);first | done | rfl | (simp only [List.length_drop,List.length_take];rfl)) ?_;(with_reducible refine (link_Title.calls (a0.extract (t105 : Int).toNat a0.size) t107 t108 _ ?side1 A9.out).mono ?_);(case side1 => exact Laid.go hLd (by repeat (first | (with_reducible first | exact HB.out | apply below_alloc | apply pw_below_drewN | apply below_drew1) | exact HB.out)));rintro e w16 ⟨rfl,hb⟩;refine ⟨_,rfl,?_⟩;have n0_ := Aside0.mk (below_step (by repeat (first | (with_reducible first | exact HB.out | apply below_alloc | apply pw_below_drewN | apply below_drew1) | exact HB.out)) hb);clear HB;have HB := n0_;clear n0_;(try clear hb);(try clear hb2);(try clear hk);(try clear hi)) | ((with_reducible refine gate_callee (f := 31) rfl ?_);refine goesL_ (some 36) rfl rfl Tryz.func31 (by kernel_rfl) rfl #[.string (a0.extract ((ji12) : Int).toNat a0.size)] rfl (by (try simp only [List.map_toArray,List.map_cons,List.map_nil]);first | done | (simp only [hji12];rfl) | rfl | (simp only [List.length_drop,List.length_take];rfl)) ?_;(with_reducible refine (refs_end.calls (a0.extract ((ji12) : Int).toNat a0.size) t109 t110 _ A15.out).mono ?_);rintro e w17 ⟨rfl,hb⟩;refine ⟨_,rfl,?_⟩;have n0_ := Aside0.mk (below_step (by repeat (first | (with_reducible first | exact HB.out | apply below_alloc | apply pw_below_drewN | apply below_drew1) | exact HB.out)) hb);clear HB;have HB := n0_;clear n0_;(try clear hb);(try clear hb2);(try clear hk);(try clear hi)))
                  go_ret3
                  exact ⟨by first | rfl | exact retNe _ | (simp [errW_none,errW_some] <;> rfl) | (simp only [← hji12];first | rfl | (simp [errW_none,errW_some] <;> rfl)) | (simp [*,errW_none,errW_some] <;> rfl),by repeat (first | (with_reducible first | exact HB.out | apply below_alloc | apply pw_below_drewN | apply below_drew1) | exact HB.out)⟩
                · rw [if_neg c14] at H
                  exact absurd H (by simp)
              · rw [if_neg c13] at H
                exact absurd H (by simp)
          · rw [if_neg c8] at H
            exact absurd H (by simp)
        · rw [if_neg c7] at H
          exact absurd H (by simp)

end Go.Proofs.YtekifcbokdidlaaGreatDoor.PA
namespace Go.Proofs.YtekifcbokdidlaaGreatDoor.PA
open Go.RowKit Go.Proofs.YtekifcbokdidlaaGreatDoorW.PrintWords Go.Proofs.YtekifcbokdidlaaGreatDoorW.PrintLast Go.Proofs.YtekifcbokdidlaaGreatDoorW.PrintMore
attribute [local go_sem] max2_int min2_int max_two min_two max_three min_three max_four min_four   -- for this text's walks alone
set_option linter.unusedVariables false
set_option linter.unusedSimpArgs false






/-! ### refs_Take: function 15 -/
def refs_Take.j0 : Nat → ByteArray → ByteArray → ByteArray → Int → Bool → Option (ByteArray × ByteArray × ByteArray × Int)
  | 0,_,_,_,_,_ => none
  | k + 1,x0,x4,x6,x8,x41 => if x41 = true then (some ((⟨#[]⟩ : ByteArray),(⟨#[]⟩ : ByteArray),(⟨#[]⟩ : ByteArray),0)) else (if 0 ≤ x8 then (if x8 ≤ (x6.size : Int) then ((link_Dest.f (x6.extract (x8 : Int).toNat x6.size)).bind fun bt118 => (if bt118.2.2 = true then (if 0 ≤ (wrap64 (x8 + bt118.2.1)) then (if (wrap64 (x8 + bt118.2.1)) ≤ (x6.size : Int) then ((class_Label.f x4).bind fun t121 => ((refs_titled.f k (x6.extract ((wrap64 (x8 + bt118.2.1)) : Int).toNat x6.size)).bind fun bt123 => (if bt123.2.2 = true then (some (t121,bt118.1,bt123.1,wrap64 ((wrap64 ((x0.size : Int) - ((x6.extract ((wrap64 (x8 + bt118.2.1)) : Int).toNat x6.size).size : Int))) + bt123.2.1))) else ((refs_end.f (x6.extract ((wrap64 (x8 + bt118.2.1)) : Int).toNat x6.size)).bind fun bt126 => (if bt126.2 = true then (some (t121,bt118.1,(⟨#[]⟩ : ByteArray),wrap64 ((wrap64 ((x0.size : Int) - ((x6.extract ((wrap64 (x8 + bt118.2.1)) : Int).toNat x6.size).size : Int))) + bt126.1))) else (some ((⟨#[]⟩ : ByteArray),(⟨#[]⟩ : ByteArray),(⟨#[]⟩ : ByteArray),0))))))) else (none)) else (none)) else (some ((⟨#[]⟩ : ByteArray),(⟨#[]⟩ : ByteArray),(⟨#[]⟩ : ByteArray),0)))) else (none)) else (none))
def refs_Take.f (k : Nat) (a0 : ByteArray) : Option (ByteArray × ByteArray × ByteArray × Int) := (link_Label.f a0).bind fun bt112 => (if 0 ≤ bt112.2 then (if bt112.2 ≤ (a0.size : Int) then ((strings_CutPrefix.f (a0.extract (bt112.2 : Int).toNat a0.size) (⟨#[58]⟩ : ByteArray)).bind fun bt114 => ((refs_gap.f bt114.1).bind fun bt116 => (if bt112.2 = 0 then (refs_Take.j0 k a0 bt112.1 bt114.1 bt116.1 true) else (if bt114.2 = true then (refs_Take.j0 k a0 bt112.1 bt114.1 bt116.1 (!bt116.2)) else (refs_Take.j0 k a0 bt112.1 bt114.1 bt116.1 true))))) else (none)) else (none))
theorem refs_Take.mono_l : ∀ k,(∀ y0 y1 y2 y3 y4,LeO (refs_Take.j0 k y0 y1 y2 y3 y4) (refs_Take.j0 (k + 1) y0 y1 y2 y3 y4))
  | 0 => fun _ _ _ _ _ r h => by simp [refs_Take.j0] at h
  | k + 1 => by
    have ih0 := refs_Take.mono_l k
    · intro y0 y1 y2 y3 y4
      unfold refs_Take.j0
      repeat' first
      | (with_reducible exact ih0 _ _ _ _ _)
      | (with_reducible exact refs_titled.mono _ _)
      | (with_reducible exact LeO.refl _)
      | (with_reducible exact LeO.none _)
      | (with_reducible refine LeO.ite ?_ ?_)
      | (with_reducible refine LeO.bind ?_ (fun _ => ?_))
      | exact ih0 _ _ _ _ _
      | exact refs_titled.mono _ _
      | exact LeO.none _
      | refine LeO.ite ?_ ?_
      | refine LeO.bind ?_ (fun _ => ?_)
theorem refs_Take.mono : ∀ a0 k,LeO (refs_Take.f k a0) (refs_Take.f (k + 1) a0) := by
  intro a0 k
  have ih0 := refs_Take.mono_l k
  unfold refs_Take.f
  repeat' first
      | (with_reducible exact ih0 _ _ _ _ _)
      | (with_reducible exact refs_titled.mono _ _)
      | (with_reducible exact LeO.refl _)
      | (with_reducible exact LeO.none _)
      | (with_reducible refine LeO.ite ?_ ?_)
      | (with_reducible refine LeO.bind ?_ (fun _ => ?_))
      | exact ih0 _ _ _ _ _
      | exact refs_titled.mono _ _
      | exact LeO.none _
      | refine LeO.ite ?_ ?_
      | refine LeO.bind ?_ (fun _ => ?_)
set_option maxHeartbeats 8000000 in
set_option maxRecDepth 100000 in
theorem refs_Take.calls (k : Nat) (a0 : ByteArray) (r1 : ByteArray) (r2 : ByteArray) (r3 : ByteArray) (r4 : Int) (w : World) (hLd : Laid w) (h : refs_Take.f k a0 = some (r1,r2,r3,r4)) :
    Calls Tryz.prog 15 #[.string a0] w fun e w' => e = .returned (.tuple #[.agg #[.string r1,.string r2,.string r3],.int .i64 r4]) ∧ Below w.heap.size w w' := by
  have hu26 := Tryz.underlying26
  have HB := Aside0.mk (Below.refl w.heap.size w)
  have H : ((link_Label.f a0).bind fun bt112 => (if 0 ≤ bt112.2 then (if bt112.2 ≤ (a0.size : Int) then ((strings_CutPrefix.f (a0.extract (bt112.2 : Int).toNat a0.size) (⟨#[58]⟩ : ByteArray)).bind fun bt114 => ((refs_gap.f bt114.1).bind fun bt116 => (if bt112.2 = 0 then (refs_Take.j0 k a0 bt112.1 bt114.1 bt116.1 true) else (if bt114.2 = true then (refs_Take.j0 k a0 bt112.1 bt114.1 bt116.1 (!bt116.2)) else (refs_Take.j0 k a0 bt112.1 bt114.1 bt116.1 true))))) else (none)) else (none))) = some (r1,r2,r3,r4) := h
  clear h
  replace H := Option.bind_eq_some_iff.mp H
  obtain ⟨⟨t112,t113⟩,A20,H⟩ := H
  replace H : (if 0 ≤ t113 then (if t113 ≤ (a0.size : Int) then ((strings_CutPrefix.f (a0.extract (t113 : Int).toNat a0.size) (⟨#[58]⟩ : ByteArray)).bind fun bt114 => ((refs_gap.f bt114.1).bind fun bt116 => (if t113 = 0 then (refs_Take.j0 k a0 t112 bt114.1 bt116.1 true) else (if bt114.2 = true then (refs_Take.j0 k a0 t112 bt114.1 bt116.1 (!bt116.2)) else (refs_Take.j0 k a0 t112 bt114.1 bt116.1 true))))) else (none)) else (none)) = some (r1,r2,r3,r4) := H
  have A2 := Aside0.mk A20
  clear A20
  by_cases c3 : 0 ≤ t113
  · rw [if_pos c3] at H
    have c3b0 := eq_true c3
    have c3b1 : decide (0 ≤ t113) = true := decide_eq_true c3
    clear c3
    by_cases c4 : t113 ≤ (a0.size : Int)
    · rw [if_pos c4] at H
      have c4b0 := eq_true c4
      have c4b1 : decide (t113 ≤ (a0.size : Int)) = true := decide_eq_true c4
      clear c4
      replace H := Option.bind_eq_some_iff.mp H
      obtain ⟨⟨t114,t115⟩,A50,H⟩ := H
      replace H : ((refs_gap.f t114).bind fun bt116 => (if t113 = 0 then (refs_Take.j0 k a0 t112 t114 bt116.1 true) else (if t115 = true then (refs_Take.j0 k a0 t112 t114 bt116.1 (!bt116.2)) else (refs_Take.j0 k a0 t112 t114 bt116.1 true)))) = some (r1,r2,r3,r4) := H
      have A5 := Aside0.mk A50
      clear A50
      replace H := Option.bind_eq_some_iff.mp H
      obtain ⟨⟨t116,t117⟩,A60,H⟩ := H
      replace H : (if t113 = 0 then (refs_Take.j0 k a0 t112 t114 t116 true) else (if t115 = true then (refs_Take.j0 k a0 t112 t114 t116 (!t117)) else (refs_Take.j0 k a0 t112 t114 t116 true))) = some (r1,r2,r3,r4) := H
      have A6 := Aside0.mk A60
      clear A60
      have HC7 := Aside0.mk H
      clear H
      go_enter Tryz.func15,Tryz.ntmps15
      go_upto_region 4 with (first | ((with_reducible refine gate_dst (N := 2) rfl ?_);refine box_event ?hg (N := 2) ?hd (cs := #[.string (⟨#[]⟩ : ByteArray),.string (⟨#[]⟩ : ByteArray),.string (⟨#[]⟩ : ByteArray)]) (t := 26) ?hr ?_;(case hd => rfl);(case hg => rfl);(case hr => first | (go_simp;done) | (go_simp;rfl));intro gb111 hg w8 hbox hb;have n0_ := Aside0.mk (below_step (by repeat (first | (with_reducible first | exact HB.out | apply below_alloc | apply pw_below_drewN | apply below_drew1) | exact HB.out)) hb);have n1_ := Aside0.mk (hbox);have n2_ := Aside0.mk ((by rw [hg];exact (below_size (by repeat (first | (with_reducible first | exact HB.out | apply below_alloc | apply pw_below_drewN | apply below_drew1) | exact HB.out))) : w.heap.size ≤ gb111));have n3_ := Aside0.mk ((by rw [hg];exact (below_size (by repeat (first | (with_reducible first | exact HB.out | apply below_alloc | apply pw_below_drewN | apply below_drew1) | exact HB.out))) : w.heap.size ≤ gb111));clear HB;have HB := n0_;have BK111 := n1_;have GW111 := n2_;have GE111 := n3_;clear n0_ n1_ n2_ n3_;clear hb hbox hg) | ((with_reducible refine gate_callee (f := 26) rfl ?_);refine goesL_ (some 17) rfl rfl Tryz.func26 (by kernel_rfl) rfl #[.string a0] rfl (by (try simp only [List.map_toArray,List.map_cons,List.map_nil]);first | done | rfl | (simp only [List.length_drop,List.length_take];rfl)) ?_;(with_reducible refine (link_Label.calls a0 t112 t113 _ A2.out).mono ?_);rintro e w9 ⟨rfl,hb⟩;refine ⟨_,rfl,?_⟩;have n0_ := Aside0.mk (blk_below (g := gb111) (o := .cells #[.string (⟨#[]⟩ : ByteArray),.string (⟨#[]⟩ : ByteArray),.string (⟨#[]⟩ : ByteArray)] 26 (0,0)) (by (with_reducible repeat (first | refine blk_drewN ?_ _ | refine blk_drew ?_ | refine blk_alloc ?_ _));exact BK111.out) hb);have n1_ := Aside0.mk (below_step (by repeat (first | (with_reducible first | exact HB.out | apply below_alloc | apply pw_below_drewN | apply below_drew1 | refine below_set ?_ GE111.out) | exact HB.out)) hb);clear BK111;clear HB;have BK111 := n0_;have HB := n1_;clear n0_ n1_;(try clear hb);(try clear hb2);(try clear hk);(try clear hi)) | ((with_reducible refine gate_callee (f := 27) rfl ?_);refine goesL_ (some 24) rfl rfl Tryz.func27 (by kernel_rfl) rfl #[.string (a0.extract (t113 : Int).toNat a0.size),.string (⟨#[58]⟩ : ByteArray)] rfl (by (try simp only [List.map_toArray,List.map_cons,List.map_nil]);first | done | rfl | (simp only [List.length_drop,List.length_take];rfl)) ?_;(with_reducible refine (strings_CutPrefix.calls (a0.extract (t113 : Int).toNat a0.size) (⟨#[58]⟩ : ByteArray) t114 t115 _ A5.out).mono ?_);rintro e w' ⟨rfl,⟨nd,rfl⟩⟩;refine ⟨_,rfl,?_⟩) | ((with_reducible refine gate_callee (f := 28) rfl ?_);refine goesL_ (some 29) rfl rfl Tryz.func28 (by kernel_rfl) rfl #[.string t114] rfl (by (try simp only [List.map_toArray,List.map_cons,List.map_nil]);first | done | rfl | (simp only [List.length_drop,List.length_take];rfl)) ?_;(with_reducible refine (refs_gap.calls t114 t116 t117 _ A6.out).mono ?_);rintro e w10 ⟨rfl,hb⟩;refine ⟨_,rfl,?_⟩;have n0_ := Aside0.mk (blk_below (g := gb111) (o := .cells #[.string (⟨#[]⟩ : ByteArray),.string (⟨#[]⟩ : ByteArray),.string (⟨#[]⟩ : ByteArray)] 26 (0,0)) (by (with_reducible repeat (first | refine blk_drewN ?_ _ | refine blk_drew ?_ | refine blk_alloc ?_ _));exact BK111.out) hb);have n1_ := Aside0.mk (below_step (by repeat (first | (with_reducible first | exact HB.out | apply below_alloc | apply pw_below_drewN | apply below_drew1 | refine below_set ?_ GE111.out) | exact HB.out)) hb);clear BK111;clear HB;have BK111 := n0_;have HB := n1_;clear n0_ n1_;(try clear hb);(try clear hb2);(try clear hk);(try clear hi)))
      (try simp only [Act.put,List.setIfInBounds_toArray,List.set_cons_zero,List.set_cons_succ])
      go_cut [41] (fun v41 wc => ∃ (kq : Nat) (x41_6 : Bool),v41 = .bool x41_6 ∧ Aside0 (refs_Take.j0 kq a0 t112 t114 t116 x41_6 = some (r1,r2,r3,r4)) ∧ Aside0 (kq ≤ k) ∧ Aside0 (wc.heap[gb111]? = some (.cells #[.string (⟨#[]⟩ : ByteArray),.string (⟨#[]⟩ : ByteArray),.string (⟨#[]⟩ : ByteArray)] 26 (0,0))) ∧ Aside0 (Below w.heap.size w wc))
      case first =>
        have H := HC7.out
        clear HC7
        by_cases c11 : t113 = 0
        · rw [if_pos c11] at H
          have c11b0 : (t113 == 0) = true := beq_iff_eq.mpr c11
          have c11b1 : (t113 != 0) = false := bne_eq_false_iff_eq.mpr c11
          clear c11
          (first | rw [c11b0] | (simp only [i64_w,i32_w];rw [c11b0]) | skip)
          have H' := Aside0.mk H
          clear H
          go_wp2
          go_meet
          case rel => exact ⟨_,(true),(by first | rfl | (simp;done) | (simp [*];done)),H',⟨by first | omega | exact Nat.le_refl _⟩,⟨by (with_reducible repeat (first | refine blk_drewN ?_ _ | refine blk_drew ?_ | refine blk_alloc ?_ _));exact BK111.out⟩,⟨by repeat (first | (with_reducible first | exact HB.out | apply below_alloc | apply pw_below_drewN | apply below_drew1 | refine below_set ?_ GE111.out) | exact HB.out)⟩⟩
        · rw [if_neg c11] at H
          have c11b0 : (t113 == 0) = false := beq_eq_false_iff_ne.mpr c11
          have c11b1 : (t113 != 0) = true := bne_iff_ne.mpr c11
          (first | rw [c11b0] | (simp only [i64_w,i32_w];rw [c11b0]) | skip)
          by_cases c12 : t115 = true
          · subst c12
            have H1 : (refs_Take.j0 k a0 t112 t114 t116 (!t117)) = some (r1,r2,r3,r4) := by rw [if_pos rfl] at H;exact H
            clear H
            have H := H1
            clear H1
            have H' := Aside0.mk H
            clear H
            go_wp2
            go_meet
            case rel => exact ⟨_,(!t117),(by first | rfl | (simp;done) | (simp [*];done)),H',⟨by first | omega | exact Nat.le_refl _⟩,⟨by (with_reducible repeat (first | refine blk_drewN ?_ _ | refine blk_drew ?_ | refine blk_alloc ?_ _));exact BK111.out⟩,⟨by repeat (first | (with_reducible first | exact HB.out | apply below_alloc | apply pw_below_drewN | apply below_drew1 | refine below_set ?_ GE111.out) | exact HB.out)⟩⟩
          · replace c12 := Bool.eq_false_iff.mpr c12
            subst c12
            have H1 : (refs_Take.j0 k a0 t112 t114 t116 true) = some (r1,r2,r3,r4) := by rw [if_neg (show ¬ (false = true) by decide)] at H;exact H
            clear H
            have H := H1
            clear H1
            have H' := Aside0.mk H
            clear H
            go_wp2
            go_meet
            case rel => exact ⟨_,(true),(by first | rfl | (simp;done) | (simp [*];done)),H',⟨by first | omega | exact Nat.le_refl _⟩,⟨by (with_reducible repeat (first | refine blk_drewN ?_ _ | refine blk_drew ?_ | refine blk_alloc ?_ _));exact BK111.out⟩,⟨by repeat (first | (with_reducible first | exact HB.out | apply below_alloc | apply pw_below_drewN | apply below_drew1 | refine below_set ?_ GE111.out) | exact HB.out)⟩⟩
      case rest =>
        clear HC7
        try clear c1
        try clear c2
        try clear p2
        try clear c3
        try clear c3b0
        try clear c3b1
        try clear c4
        try clear c4b0
        try clear c4b1
        try clear c11
        try clear c11b0
        try clear c11b1
        try clear c12
        obtain ⟨kq,x41_6,rfl,HA,HJ6,BK111,HB⟩ := hcut
        cases kq with
        | zero => exact absurd HA.out (by simp [refs_Take.j0])
        | succ kj6 =>
          have H := HA.out
          clear HA
          simp only [refs_Take.j0] at H
          by_cases c13 : x41_6 = true
          · subst c13
            have H1 : (some ((⟨#[]⟩ : ByteArray),(⟨#[]⟩ : ByteArray),(⟨#[]⟩ : ByteArray),0)) = some (r1,r2,r3,r4) := by rw [if_pos rfl] at H;exact H
            clear H
            have H := H1
            clear H1
            simp only [Option.some.injEq,Prod.mk.injEq] at H
            obtain ⟨rfl,rfl,rfl,rfl⟩ := H
            have hcz14_0 : wc.cell? ⟨gb111,0,none⟩ = some (.string (⟨#[]⟩ : ByteArray)) := (blk_cell BK111.out 0).trans rfl
            have hcz14_1 : wc.cell? ⟨gb111,1,none⟩ = some (.string (⟨#[]⟩ : ByteArray)) := (blk_cell BK111.out 1).trans rfl
            have hcz14_2 : wc.cell? ⟨gb111,2,none⟩ = some (.string (⟨#[]⟩ : ByteArray)) := (blk_cell BK111.out 2).trans rfl
            have hfz14_0 := blk_frozen BK111.out 0
            have hfz14_1 := blk_frozen BK111.out 1
            have hfz14_2 := blk_frozen BK111.out 2
            go_wp2
            refine bodyPost_ret (results_ct rfl _ _ gb111 26 #[.string (⟨#[]⟩ : ByteArray),.string (⟨#[]⟩ : ByteArray),.string (⟨#[]⟩ : ByteArray)] (0,0) _ rfl (by (with_reducible repeat (first | refine blk_drewN ?_ _ | refine blk_drew ?_ | refine blk_alloc ?_ _));refine blk_put (cs := #[.string (⟨#[]⟩ : ByteArray),.string (⟨#[]⟩ : ByteArray),.string (⟨#[]⟩ : ByteArray)]) ?_ 2 _ rfl;(with_reducible repeat (first | refine blk_drewN ?_ _ | refine blk_drew ?_ | refine blk_alloc ?_ _));refine blk_put (cs := #[.string (⟨#[]⟩ : ByteArray),.string (⟨#[]⟩ : ByteArray),.string (⟨#[]⟩ : ByteArray)]) ?_ 1 _ rfl;(with_reducible repeat (first | refine blk_drewN ?_ _ | refine blk_drew ?_ | refine blk_alloc ?_ _));refine blk_put (cs := #[.string (⟨#[]⟩ : ByteArray),.string (⟨#[]⟩ : ByteArray),.string (⟨#[]⟩ : ByteArray)]) ?_ 0 _ rfl;(with_reducible repeat (first | refine blk_drewN ?_ _ | refine blk_drew ?_ | refine blk_alloc ?_ _));exact BK111.out) Tryz.underlying26 rfl (by kernel_rfl)) rfl ?_
            exact ⟨by first | rfl | exact retNe _ | (simp [errW_none,errW_some] <;> rfl) | (simp [*,errW_none,errW_some] <;> rfl),by repeat (first | (with_reducible first | exact HB.out | apply below_alloc | apply pw_below_drewN | apply below_drew1 | refine below_set ?_ GE111.out) | exact HB.out)⟩
          · replace c13 := Bool.eq_false_iff.mpr c13
            subst c13
            have H1 : (if 0 ≤ t116 then (if t116 ≤ (t114.size : Int) then ((link_Dest.f (t114.extract (t116 : Int).toNat t114.size)).bind fun bt118 => (if bt118.2.2 = true then (if 0 ≤ (wrap64 (t116 + bt118.2.1)) then (if (wrap64 (t116 + bt118.2.1)) ≤ (t114.size : Int) then ((class_Label.f t112).bind fun t121 => ((refs_titled.f kj6 (t114.extract ((wrap64 (t116 + bt118.2.1)) : Int).toNat t114.size)).bind fun bt123 => (if bt123.2.2 = true then (some (t121,bt118.1,bt123.1,wrap64 ((wrap64 ((a0.size : Int) - ((t114.extract ((wrap64 (t116 + bt118.2.1)) : Int).toNat t114.size).size : Int))) + bt123.2.1))) else ((refs_end.f (t114.extract ((wrap64 (t116 + bt118.2.1)) : Int).toNat t114.size)).bind fun bt126 => (if bt126.2 = true then (some (t121,bt118.1,(⟨#[]⟩ : ByteArray),wrap64 ((wrap64 ((a0.size : Int) - ((t114.extract ((wrap64 (t116 + bt118.2.1)) : Int).toNat t114.size).size : Int))) + bt126.1))) else (some ((⟨#[]⟩ : ByteArray),(⟨#[]⟩ : ByteArray),(⟨#[]⟩ : ByteArray),0))))))) else (none)) else (none)) else (some ((⟨#[]⟩ : ByteArray),(⟨#[]⟩ : ByteArray),(⟨#[]⟩ : ByteArray),0)))) else (none)) else (none)) = some (r1,r2,r3,r4) := by rw [if_neg (show ¬ (false = true) by decide)] at H;exact H
            clear H
            have H := H1
            clear H1
            by_cases c15 : 0 ≤ t116
            · rw [if_pos c15] at H
              have c15b0 := eq_true c15
              have c15b1 : decide (0 ≤ t116) = true := decide_eq_true c15
              clear c15
              by_cases c16 : t116 ≤ (t114.size : Int)
              · rw [if_pos c16] at H
                have c16b0 := eq_true c16
                have c16b1 : decide (t116 ≤ (t114.size : Int)) = true := decide_eq_true c16
                clear c16
                replace H := Option.bind_eq_some_iff.mp H
                obtain ⟨⟨t118,t119,t120⟩,A170,H⟩ := H
                replace H : (if t120 = true then (if 0 ≤ (wrap64 (t116 + t119)) then (if (wrap64 (t116 + t119)) ≤ (t114.size : Int) then ((class_Label.f t112).bind fun t121 => ((refs_titled.f kj6 (t114.extract ((wrap64 (t116 + t119)) : Int).toNat t114.size)).bind fun bt123 => (if bt123.2.2 = true then (some (t121,t118,bt123.1,wrap64 ((wrap64 ((a0.size : Int) - ((t114.extract ((wrap64 (t116 + t119)) : Int).toNat t114.size).size : Int))) + bt123.2.1))) else ((refs_end.f (t114.extract ((wrap64 (t116 + t119)) : Int).toNat t114.size)).bind fun bt126 => (if bt126.2 = true then (some (t121,t118,(⟨#[]⟩ : ByteArray),wrap64 ((wrap64 ((a0.size : Int) - ((t114.extract ((wrap64 (t116 + t119)) : Int).toNat t114.size).size : Int))) + bt126.1))) else (some ((⟨#[]⟩ : ByteArray),(⟨#[]⟩ : ByteArray),(⟨#[]⟩ : ByteArray),0))))))) else (none)) else (none)) else (some ((⟨#[]⟩ : ByteArray),(⟨#[]⟩ : ByteArray),(⟨#[]⟩ : ByteArray),0))) = some (r1,r2,r3,r4) := H
                have A17 := Aside0.mk A170
                clear A170
                by_cases c18 : t120 = true
                · subst c18
                  have H1 : (if 0 ≤ (wrap64 (t116 + t119)) then (if (wrap64 (t116 + t119)) ≤ (t114.size : Int) then ((class_Label.f t112).bind fun t121 => ((refs_titled.f kj6 (t114.extract ((wrap64 (t116 + t119)) : Int).toNat t114.size)).bind fun bt123 => (if bt123.2.2 = true then (some (t121,t118,bt123.1,wrap64 ((wrap64 ((a0.size : Int) - ((t114.extract ((wrap64 (t116 + t119)) : Int).toNat t114.size).size : Int))) + bt123.2.1))) else ((refs_end.f (t114.extract ((wrap64 (t116 + t119)) : Int).toNat t114.size)).bind fun bt126 => (if bt126.2 = true then (some (t121,t118,(⟨#[]⟩ : ByteArray),wrap64 ((wrap64 ((a0.size : Int) - ((t114.extract ((wrap64 (t116 + t119)) : Int).toNat t114.size).size : Int))) + bt126.1))) else (some ((⟨#[]⟩ : ByteArray),(⟨#[]⟩ : ByteArray),(⟨#[]⟩ : ByteArray),0))))))) else (none)) else (none)) = some (r1,r2,r3,r4) := by rw [if_pos rfl] at H;exact H
                  clear H
                  have H := H1
                  clear H1
                  obtain ⟨ji19,hji19⟩ : ∃ j_ : Int,(wrap64 (t116 + t119)) = j_ := ⟨_,rfl⟩
                  replace H : (if 0 ≤ (ji19) then (if (ji19) ≤ (t114.size : Int) then ((class_Label.f t112).bind fun t121 => ((refs_titled.f kj6 (t114.extract ((ji19) : Int).toNat t114.size)).bind fun bt123 => (if bt123.2.2 = true then (some (t121,t118,bt123.1,wrap64 ((wrap64 ((a0.size : Int) - ((t114.extract ((ji19) : Int).toNat t114.size).size : Int))) + bt123.2.1))) else ((refs_end.f (t114.extract ((ji19) : Int).toNat t114.size)).bind fun bt126 => (if bt126.2 = true then (some (t121,t118,(⟨#[]⟩ : ByteArray),wrap64 ((wrap64 ((a0.size : Int) - ((t114.extract ((ji19) : Int).toNat t114.size).size : Int))) + bt126.1))) else (some ((⟨#[]⟩ : ByteArray),(⟨#[]⟩ : ByteArray),(⟨#[]⟩ : ByteArray),0))))))) else (none)) else (none)) = some (r1,r2,r3,r4) := by first | (rw [hji19] at H;exact H) | (simp only [hji19] at H ⊢;exact H)
                  (try rw [hji19] at A17)
                  have hji19w : (IntKind.i64.wrap (t116 + t119)) = ji19 := (i64_w _).trans hji19
                  by_cases c20 : 0 ≤ (ji19)
                  · rw [if_pos c20] at H
                    have c20b0 := eq_true c20
                    have c20b1 : decide (0 ≤ (ji19)) = true := decide_eq_true c20
                    clear c20
                    by_cases c21 : (ji19) ≤ (t114.size : Int)
                    · rw [if_pos c21] at H
                      have c21b0 := eq_true c21
                      have c21b1 : decide ((ji19) ≤ (t114.size : Int)) = true := decide_eq_true c21
                      clear c21
                      replace H := Option.bind_eq_some_iff.mp H
                      obtain ⟨t121,A220,H⟩ := H
                      replace H : ((refs_titled.f kj6 (t114.extract ((ji19) : Int).toNat t114.size)).bind fun bt123 => (if bt123.2.2 = true then (some (t121,t118,bt123.1,wrap64 ((wrap64 ((a0.size : Int) - ((t114.extract ((ji19) : Int).toNat t114.size).size : Int))) + bt123.2.1))) else ((refs_end.f (t114.extract ((ji19) : Int).toNat t114.size)).bind fun bt126 => (if bt126.2 = true then (some (t121,t118,(⟨#[]⟩ : ByteArray),wrap64 ((wrap64 ((a0.size : Int) - ((t114.extract ((ji19) : Int).toNat t114.size).size : Int))) + bt126.1))) else (some ((⟨#[]⟩ : ByteArray),(⟨#[]⟩ : ByteArray),(⟨#[]⟩ : ByteArray),0)))))) = some (r1,r2,r3,r4) := H
                      have A22 := Aside0.mk A220
                      clear A220
                      replace H := Option.bind_eq_some_iff.mp H
                      obtain ⟨⟨t123,t124,t125⟩,A230,H⟩ := H
                      replace H : (if t125 = true then (some (t121,t118,t123,wrap64 ((wrap64 ((a0.size : Int) - ((t114.extract ((ji19) : Int).toNat t114.size).size : Int))) + t124))) else ((refs_end.f (t114.extract ((ji19) : Int).toNat t114.size)).bind fun bt126 => (if bt126.2 = true then (some (t121,t118,(⟨#[]⟩ : ByteArray),wrap64 ((wrap64 ((a0.size : Int) - ((t114.extract ((ji19) : Int).toNat t114.size).size : Int))) + bt126.1))) else (some ((⟨#[]⟩ : ByteArray),(⟨#[]⟩ : ByteArray),(⟨#[]⟩ : ByteArray),0))))) = some (r1,r2,r3,r4) := H
                      have A23 := Aside0.mk A230
                      clear A230
                      by_cases c24 : t125 = true
                      · subst c24
                        have H1 : (some (t121,t118,t123,wrap64 ((wrap64 ((a0.size : Int) - ((t114.extract ((ji19) : Int).toNat t114.size).size : Int))) + t124))) = some (r1,r2,r3,r4) := by rw [if_pos rfl] at H;exact H
                        clear H
                        have H := H1
                        clear H1
                        simp only [Option.some.injEq,Prod.mk.injEq] at H
                        obtain ⟨rfl,rfl,rfl,rfl⟩ := H
                        go_wp2_with (first | ((with_reducible refine gate_callee (f := 29) rfl ?_);refine goesL_ (some 47) rfl rfl Tryz.func29 (by kernel_rfl) rfl #[.string (t114.extract (t116 : Int).toNat t114.size)] rfl (by (try simp only [List.map_toArray,List.map_cons,List.map_nil]);first | done | rfl | (simp only [List.length_drop,List.length_take];rfl)) ?_;(with_reducible refine (link_Dest.calls (t114.extract (t116 : Int).toNat t114.size) t118 t119 true _ ?side1 A17.out).mono ?_);(case side1 => exact Laid.go hLd (by repeat (first | (with_reducible first | exact HB.out | apply below_alloc | apply pw_below_drewN | apply below_drew1 | refine below_set ?_ GE111.out) | exact HB.out)));rintro e w25 ⟨rfl,hb⟩;refine ⟨_,rfl,?_⟩;have n0_ := Aside0.mk (blk_below (g := gb111) (o := .cells #[.string (⟨#[]⟩ : ByteArray),.string (⟨#[]⟩ : ByteArray),.string (⟨#[]⟩ : ByteArray)] 26 (0,0)) (by (with_reducible repeat (first | refine blk_drewN ?_ _ | refine blk_drew ?_ | refine blk_alloc ?_ _));exact BK111.out) hb);have n1_ := Aside0.mk (below_step (by repeat (first | (with_reducible first | exact HB.out | apply below_alloc | apply pw_below_drewN | apply below_drew1 | refine below_set ?_ GE111.out) | exact HB.out)) hb);clear BK111;clear HB;have BK111 := n0_;have HB := n1_;clear n0_ n1_;(try clear hb);(try clear hb2);(try clear hk);(try clear hi)) | ((with_reducible refine gate_callee (f := 19) rfl ?_);refine goesL_ (some 60) rfl rfl Tryz.func19 (by kernel_rfl) rfl #[.string t112] rfl (by (try simp only [List.map_toArray,List.map_cons,List.map_nil]);first | done | rfl | (simp only [List.length_drop,List.length_take];rfl)) ?_;(with_reducible refine (class_Label.calls t112 t121 _ ?side1 A22.out).mono ?_);(case side1 => exact Laid.go hLd (by repeat (first | (with_reducible first | exact HB.out | apply below_alloc | apply pw_below_drewN | apply below_drew1 | refine below_set ?_ GE111.out) | exact HB.out)));rintro e w26 ⟨rfl,hb⟩;refine ⟨_,rfl,?_⟩;have n0_ := Aside0.mk (blk_below (g := gb111) (o := .cells #[.string (⟨#[]⟩ : ByteArray),.string (⟨#[]⟩ : ByteArray),.string (⟨#[]⟩ : ByteArray)] 26 (0,0)) (by (with_reducible repeat (first | refine blk_drewN ?_ _ | refine blk_drew ?_ | refine blk_alloc ?_ _));exact BK111.out) hb);have n1_ := Aside0.mk (below_step (by repeat (first | (with_reducible first | exact HB.out | apply below_alloc | apply pw_below_drewN | apply below_drew1 | refine below_set ?_ GE111.out) | exact HB.out)) hb);clear BK111;clear HB;have BK111 := n0_;have HB := n1_;clear n0_ n1_;(try clear hb);(try clear hb2);(try clear hk);(try clear hi)) | ((with_reducible refine gate_dst (N := 12) rfl ?_);refine box_event ?hg (N := 12) ?hd (cs := #[.string (⟨#[]⟩ : ByteArray),.string (⟨#[]⟩ : ByteArray),.string (⟨#[]⟩ : ByteArray)]) (t := 26) ?hr ?_;(case hd => rfl);(case hg => rfl);(case hr => first | (go_simp;done) | (go_simp;rfl));intro gb122 hg w27 hbox hb;have n0_ := Aside0.mk (blk_below (g := gb111) (o := .cells #[.string (⟨#[]⟩ : ByteArray),.string (⟨#[]⟩ : ByteArray),.string (⟨#[]⟩ : ByteArray)] 26 (0,0)) (by (with_reducible repeat (first | refine blk_drewN ?_ _ | refine blk_drew ?_ | refine blk_alloc ?_ _));exact BK111.out) hb);have n1_ := Aside0.mk (below_step (by repeat (first | (with_reducible first | exact HB.out | apply below_alloc | apply pw_below_drewN | apply below_drew1 | refine below_set ?_ GE111.out) | exact HB.out)) hb);have n2_ := Aside0.mk (hbox);have n3_ := Aside0.mk ((by rw [hg];exact (below_size (by repeat (first | (with_reducible first | exact HB.out | apply below_alloc | apply pw_below_drewN | apply below_drew1 | refine below_set ?_ GE111.out) | exact HB.out))) : w.heap.size ≤ gb122));have n4_ := Aside0.mk ((by rw [hg];exact (below_size (by repeat (first | (with_reducible first | exact HB.out | apply below_alloc | apply pw_below_drewN | apply below_drew1 | refine below_set ?_ GE111.out) | exact HB.out))) : w.heap.size ≤ gb122));have n5_ := Aside0.mk ((by rw [hg];exact Nat.ne_of_lt (blk_lt (g := gb111) (o := .cells #[.string (⟨#[]⟩ : ByteArray),.string (⟨#[]⟩ : ByteArray),.string (⟨#[]⟩ : ByteArray)] 26 (0,0)) (by (with_reducible repeat (first | refine blk_drewN ?_ _ | refine blk_drew ?_ | refine blk_alloc ?_ _));exact BK111.out)) : gb111 ≠ gb122));have n6_ := Aside0.mk ((by rw [hg];exact Nat.ne_of_gt (blk_lt (g := gb111) (o := .cells #[.string (⟨#[]⟩ : ByteArray),.string (⟨#[]⟩ : ByteArray),.string (⟨#[]⟩ : ByteArray)] 26 (0,0)) (by (with_reducible repeat (first | refine blk_drewN ?_ _ | refine blk_drew ?_ | refine blk_alloc ?_ _));exact BK111.out)) : gb122 ≠ gb111));clear BK111;clear HB;have BK111 := n0_;have HB := n1_;have BK122 := n2_;have GW122 := n3_;have GE122 := n4_;have NB111_122 := n5_;have NB122_111 := n6_;clear n0_ n1_ n2_ n3_ n4_ n5_ n6_;clear hb hbox hg;have hnb28 := NB122_111.out;have hnc28 := NB111_122.out;have hcz29_0 : w27.cell? ⟨gb122,0,none⟩ = some (.string (⟨#[]⟩ : ByteArray)) := (blk_cell BK122.out 0).trans rfl;have hcz29_1 : w27.cell? ⟨gb122,1,none⟩ = some (.string (⟨#[]⟩ : ByteArray)) := (blk_cell BK122.out 1).trans rfl;have hcz29_2 : w27.cell? ⟨gb122,2,none⟩ = some (.string (⟨#[]⟩ : ByteArray)) := (blk_cell BK122.out 2).trans rfl;have hfz29_0 := blk_frozen BK122.out 0;have hfz29_1 := blk_frozen BK122.out 1;have hfz29_2 := blk_frozen BK122.out 2) | ((with_reducible refine gate_callee (f := 30) rfl ?_);refine goesL_ (some 65) rfl rfl Tryz.func30 (by kernel_rfl) rfl #[.string (t114.extract ((ji19) : Int).toNat t114.size)] rfl (by (try simp only [List.map_toArray,List.map_cons,List.map_nil]);first | done | (simp only [hji19];rfl) | rfl | (simp only [List.length_drop,List.length_take];rfl)) ?_;(with_reducible refine (refs_titled.calls kj6 (t114.extract ((ji19) : Int).toNat t114.size) t123 t124 true _ ?side1 A23.out).mono ?_);(case side1 => exact Laid.go hLd (by repeat (first | (with_reducible first | exact HB.out | apply below_alloc | apply pw_below_drewN | apply below_drew1 | refine below_set ?_ GE111.out | refine below_set ?_ GE122.out) | exact HB.out)));rintro e w30 ⟨rfl,hb⟩;refine ⟨_,rfl,?_⟩;have n0_ := Aside0.mk (blk_below (g := gb111) (o := .cells #[.string (⟨#[]⟩ : ByteArray),.string (⟨#[]⟩ : ByteArray),.string (⟨#[]⟩ : ByteArray)] 26 (0,0)) (by (with_reducible repeat (first | refine blk_drewN ?_ _ | refine blk_drew ?_ | refine blk_alloc ?_ _));refine blk_far ?_ NB111_122.out _;(with_reducible repeat (first | refine blk_drewN ?_ _ | refine blk_drew ?_ | refine blk_alloc ?_ _));refine blk_far ?_ NB111_122.out _;(with_reducible repeat (first | refine blk_drewN ?_ _ | refine blk_drew ?_ | refine blk_alloc ?_ _));refine blk_far ?_ NB111_122.out _;(with_reducible repeat (first | refine blk_drewN ?_ _ | refine blk_drew ?_ | refine blk_alloc ?_ _));exact BK111.out) hb);have n1_ := Aside0.mk (blk_below (g := gb122) (o := .cells #[.string t121,.string t118,.string (⟨#[]⟩ : ByteArray)] 26 (0,0)) (by (with_reducible repeat (first | refine blk_drewN ?_ _ | refine blk_drew ?_ | refine blk_alloc ?_ _));refine blk_put (cs := #[.string t121,.string t118,.string (⟨#[]⟩ : ByteArray)]) ?_ 2 _ rfl;(with_reducible repeat (first | refine blk_drewN ?_ _ | refine blk_drew ?_ | refine blk_alloc ?_ _));refine blk_put (cs := #[.string t121,.string (⟨#[]⟩ : ByteArray),.string (⟨#[]⟩ : ByteArray)]) ?_ 1 _ rfl;(with_reducible repeat (first | refine blk_drewN ?_ _ | refine blk_drew ?_ | refine blk_alloc ?_ _));refine blk_put (cs := #[.string (⟨#[]⟩ : ByteArray),.string (⟨#[]⟩ : ByteArray),.string (⟨#[]⟩ : ByteArray)]) ?_ 0 _ rfl;(with_reducible repeat (first | refine blk_drewN ?_ _ | refine blk_drew ?_ | refine blk_alloc ?_ _));exact BK122.out) hb);have n2_ := Aside0.mk (below_step (by repeat (first | (with_reducible first | exact HB.out | apply below_alloc | apply pw_below_drewN | apply below_drew1 | refine below_set ?_ GE111.out | refine below_set ?_ GE122.out) | exact HB.out)) hb);clear BK111;clear BK122;clear HB;have BK111 := n0_;have BK122 := n1_;have HB := n2_;clear n0_ n1_ n2_;(try clear hb);(try clear hb2);(try clear hk);(try clear hi);have hcz31_0 : w30.cell? ⟨gb122,0,none⟩ = some (.string t121) := (blk_cell BK122.out 0).trans rfl;have hcz31_1 : w30.cell? ⟨gb122,1,none⟩ = some (.string t118) := (blk_cell BK122.out 1).trans rfl;have hcz31_2 : w30.cell? ⟨gb122,2,none⟩ = some (.string (⟨#[]⟩ : ByteArray)) := (blk_cell BK122.out 2).trans rfl;have hfz31_0 := blk_frozen BK122.out 0;have hfz31_1 := blk_frozen BK122.out 1;have hfz31_2 := blk_frozen BK122.out 2;have hcz32_0 : w30.cell? ⟨gb111,0,none⟩ = some (.string (⟨#[]⟩ : ByteArray)) := (blk_cell BK111.out 0).trans rfl;have hcz32_1 : w30.cell? ⟨gb111,1,none⟩ = some (.string (⟨#[]⟩ : ByteArray)) := (blk_cell BK111.out 1).trans rfl;have hcz32_2 : w30.cell? ⟨gb111,2,none⟩ = some (.string (⟨#[]⟩ : ByteArray)) := (blk_cell BK111.out 2).trans rfl;have hfz32_0 := blk_frozen BK111.out 0;have hfz32_1 := blk_frozen BK111.out 1;have hfz32_2 := blk_frozen BK111.out 2))
                        refine bodyPost_ret (results_ct rfl _ _ gb111 26 #[.string t121,.string t118,.string t123] (0,0) _ rfl (by (with_reducible repeat (first | refine blk_drewN ?_ _ | refine blk_drew ?_ | refine blk_alloc ?_ _));refine blk_put (cs := #[.string t121,.string t118,.string (⟨#[]⟩ : ByteArray)]) ?_ 2 _ rfl;(with_reducible repeat (first | refine blk_drewN ?_ _ | refine blk_drew ?_ | refine blk_alloc ?_ _));refine blk_put (cs := #[.string t121,.string (⟨#[]⟩ : ByteArray),.string (⟨#[]⟩ : ByteArray)]) ?_ 1 _ rfl;(with_reducible repeat (first | refine blk_drewN ?_ _ | refine blk_drew ?_ | refine blk_alloc ?_ _));refine blk_put (cs := #[.string (⟨#[]⟩ : ByteArray),.string (⟨#[]⟩ : ByteArray),.string (⟨#[]⟩ : ByteArray)]) ?_ 0 _ rfl;(with_reducible repeat (first | refine blk_drewN ?_ _ | refine blk_drew ?_ | refine blk_alloc ?_ _));refine blk_far ?_ NB111_122.out _;(with_reducible repeat (first | refine blk_drewN ?_ _ | refine blk_drew ?_ | refine blk_alloc ?_ _));exact BK111.out) Tryz.underlying26 rfl (by kernel_rfl)) rfl ?_
                        exact ⟨by first | rfl | exact retNe _ | (simp [errW_none,errW_some] <;> rfl) | (simp only [← hji19];first | rfl | (simp [errW_none,errW_some] <;> rfl)) | (simp [*,errW_none,errW_some] <;> rfl),by repeat (first | (with_reducible first | exact HB.out | apply below_alloc | apply pw_below_drewN | apply below_drew1 | refine below_set ?_ GE111.out | refine below_set ?_ GE122.out) | exact HB.out)⟩
                      · replace c24 := Bool.eq_false_iff.mpr c24
                        subst c24
                        have H1 : ((refs_end.f (t114.extract ((ji19) : Int).toNat t114.size)).bind fun bt126 => (if bt126.2 = true then (some (t121,t118,(⟨#[]⟩ : ByteArray),wrap64 ((wrap64 ((a0.size : Int) - ((t114.extract ((ji19) : Int).toNat t114.size).size : Int))) + bt126.1))) else (some ((⟨#[]⟩ : ByteArray),(⟨#[]⟩ : ByteArray),(⟨#[]⟩ : ByteArray),0)))) = some (r1,r2,r3,r4) := by rw [if_neg (show ¬ (false = true) by decide)] at H;exact H
                        clear H
                        have H := H1
                        clear H1
                        replace H := Option.bind_eq_some_iff.mp H
                        obtain ⟨⟨t126,t127⟩,A330,H⟩ := H
                        replace H : (if t127 = true then (some (t121,t118,(⟨#[]⟩ : ByteArray),wrap64 ((wrap64 ((a0.size : Int) - ((t114.extract ((ji19) : Int).toNat t114.size).size : Int))) + t126))) else (some ((⟨#[]⟩ : ByteArray),(⟨#[]⟩ : ByteArray),(⟨#[]⟩ : ByteArray),0))) = some (r1,r2,r3,r4) := H
                        have A33 := Aside0.mk A330
                        clear A330
                        by_cases c34 : t127 = true
                        · subst c34
                          have H1 : (some (t121,t118,(⟨#[]⟩ : ByteArray),wrap64 ((wrap64 ((a0.size : Int) - ((t114.extract ((ji19) : Int).toNat t114.size).size : Int))) + t126))) = some (r1,r2,r3,r4) := by rw [if_pos rfl] at H;exact H
                          clear H
                          have H := H1
                          clear H1
                          simp only [Option.some.injEq,Prod.mk.injEq] at H
                          obtain ⟨rfl,rfl,rfl,rfl⟩ := H
                          go_wp2_with (first | ((with_reducible refine gate_callee (f := 29) rfl ?_);refine goesL_ (some 47) rfl rfl Tryz.func29 (by kernel_rfl) rfl #[.string (t114.extract (t116 : Int).toNat t114.size)] rfl (by (try simp only [List.map_toArray,List.map_cons,List.map_nil]);first | done | rfl | (simp only [List.length_drop,List.length_take];rfl)) ?_;(with_reducible refine (link_Dest.calls (t114.extract (t116 : Int).toNat t114.size) t118 t119 true _ ?side1 A17.out).mono ?_);(case side1 => exact Laid.go hLd (by repeat (first | (with_reducible first | exact HB.out | apply below_alloc | apply pw_below_drewN | apply below_drew1 | refine below_set ?_ GE111.out) | exact HB.out)));rintro e w35 ⟨rfl,hb⟩;refine ⟨_,rfl,?_⟩;have n0_ := Aside0.mk (blk_below (g := gb111) (o := .cells #[.string (⟨#[]⟩ : ByteArray),.string (⟨#[]⟩ : ByteArray),.string (⟨#[]⟩ : ByteArray)] 26 (0,0)) (by (with_reducible repeat (first | refine blk_drewN ?_ _ | refine blk_drew ?_ | refine blk_alloc ?_ _));exact BK111.out) hb);have n1_ := Aside0.mk (below_step (by repeat (first | (with_reducible first | exact HB.out | apply below_alloc | apply pw_below_drewN | apply below_drew1 | refine below_set ?_ GE111.out) | exact HB.out)) hb);clear BK111;clear HB;have BK111 := n0_;have HB := n1_;clear n0_ n1_;(try clear hb);(try clear hb2);(try clear hk);(try clear hi)) | ((with_reducible refine gate_callee (f := 19) rfl ?_);refine goesL_ (some 60) rfl rfl Tryz.func19 (by kernel_rfl) rfl #[.string t112] rfl (by (try simp only [List.map_toArray,List.map_cons,List.map_nil]);first | done | rfl | (simp only [List.length_drop,List.length_take];rfl)) ?_;(with_reducible refine (class_Label.calls t112 t121 _ ?side1 A22.out).mono ?_);(case side1 => exact Laid.go hLd (by repeat (first | (with_reducible first | exact HB.out | apply below_alloc | apply pw_below_drewN | apply below_drew1 | refine below_set ?_ GE111.out) | exact HB.out)));rintro e w36 ⟨rfl,hb⟩;refine ⟨_,rfl,?_⟩;have n0_ := Aside0.mk (blk_below (g := gb111) (o := .cells #[.string (⟨#[]⟩ : ByteArray),.string (⟨#[]⟩ : ByteArray),.string (⟨#[]⟩ : ByteArray)] 26 (0,0)) (by (with_reducible repeat (first | refine blk_drewN ?_ _ | refine blk_drew ?_ | refine blk_alloc ?_ _));exact BK111.out) hb);have n1_ := Aside0.mk (below_step (by repeat (first | (with_reducible first | exact HB.out | apply below_alloc | apply pw_below_drewN | apply below_drew1 | refine below_set ?_ GE111.out) | exact HB.out)) hb);clear BK111;clear HB;have BK111 := n0_;have HB := n1_;clear n0_ n1_;(try clear hb);(try clear hb2);(try clear hk);(try clear hi)) | ((with_reducible refine gate_dst (N := 12) rfl ?_);refine box_event ?hg (N := 12) ?hd (cs := #[.string (⟨#[]⟩ : ByteArray),.string (⟨#[]⟩ : ByteArray),.string (⟨#[]⟩ : ByteArray)]) (t := 26) ?hr ?_;(case hd => rfl);(case hg => rfl);(case hr => first | (go_simp;done) | (go_simp;rfl));intro gb122 hg w37 hbox hb;have n0_ := Aside0.mk (blk_below (g := gb111) (o := .cells #[.string (⟨#[]⟩ : ByteArray),.string (⟨#[]⟩ : ByteArray),.string (⟨#[]⟩ : ByteArray)] 26 (0,0)) (by (with_reducible repeat (first | refine blk_drewN ?_ _ | refine blk_drew ?_ | refine blk_alloc ?_ _));exact BK111.out) hb);have n1_ := Aside0.mk (below_step (by repeat (first | (with_reducible first | exact HB.out | apply below_alloc | apply pw_below_drewN | apply below_drew1 | refine below_set ?_ GE111.out) | exact HB.out)) hb);have n2_ := Aside0.mk (hbox);have n3_ := Aside0.mk ((by rw [hg];exact (below_size (by repeat (first | (with_reducible first | exact HB.out | apply below_alloc | apply pw_below_drewN | apply below_drew1 | refine below_set ?_ GE111.out) | exact HB.out))) : w.heap.size ≤ gb122));have n4_ := Aside0.mk ((by rw [hg];exact (below_size (by repeat (first | (with_reducible first | exact HB.out | apply below_alloc | apply pw_below_drewN | apply below_drew1 | refine below_set ?_ GE111.out) | exact HB.out))) : w.heap.size ≤ gb122));have n5_ := Aside0.mk ((by rw [hg];exact Nat.ne_of_lt (blk_lt (g := gb111) (o := .cells #[.string (⟨#[]⟩ : ByteArray),.string (⟨#[]⟩ : ByteArray),.string (⟨#[]⟩ : ByteArray)] 26 (0,0)) (by (with_reducible repeat (first | refine blk_drewN ?_ _ | refine blk_drew ?_ | refine blk_alloc ?_ _));exact BK111.out)) : gb111 ≠ gb122));have n6_ := Aside0.mk ((by rw [hg];exact Nat.ne_of_gt (blk_lt (g := gb111) (o := .cells #[.string (⟨#[]⟩ : ByteArray),.string (⟨#[]⟩ : ByteArray),.string (⟨#[]⟩ : ByteArray)] 26 (0,0)) (by (with_reducible repeat (first | refine blk_drewN ?_ _ | refine blk_drew ?_ | refine blk_alloc ?_ _));exact BK111.out)) : gb122 ≠ gb111));clear BK111;clear HB;have BK111 := n0_;have HB := n1_;have BK122 := n2_;have GW122 := n3_;have GE122 := n4_;have NB111_122 := n5_;have NB122_111 := n6_;clear n0_ n1_ n2_ n3_ n4_ n5_ n6_;clear hb hbox hg;have hnb38 := NB122_111.out;have hnc38 := NB111_122.out;have hcz39_0 : w37.cell? ⟨gb122,0,none⟩ = some (.string (⟨#[]⟩ : ByteArray)) := (blk_cell BK122.out 0).trans rfl;have hcz39_1 : w37.cell? ⟨gb122,1,none⟩ = some (.string (⟨#[]⟩ : ByteArray)) := (blk_cell BK122.out 1).trans rfl;have hcz39_2 : w37.cell? ⟨gb122,2,none⟩ = some (.string (⟨#[]⟩ : ByteArray)) := (blk_cell BK122.out 2).trans rfl;have hfz39_0 := blk_frozen BK122.out 0;have hfz39_1 := blk_frozen BK122.out 1;have hfz39_2 := blk_frozen BK122.out 2) | ((with_reducible refine gate_callee (f := 30) rfl ?_);refine goesL_ (some 65) rfl rfl Tryz.func30 (by kernel_rfl) rfl #[.string (t114.extract ((ji19) : Int).toNat t114.size)] rfl (by (try simp only [List.map_toArray,List.map_cons,List.map_nil]);first | done | (simp only [hji19];rfl) | rfl | (simp only [List.length_drop,List.length_take];rfl)) ?_;(with_reducible refine (refs_titled.calls kj6 (t114.extract ((ji19) : Int).toNat t114.size) t123 t124 false _ ?side1 A23.out).mono ?_);(case side1 => exact Laid.go hLd (by repeat (first | (with_reducible first | exact HB.out | apply below_alloc | apply pw_below_drewN | apply below_drew1 | refine below_set ?_ GE111.out | refine below_set ?_ GE122.out) | exact HB.out)));rintro e w40 ⟨rfl,hb⟩;refine ⟨_,rfl,?_⟩;have n0_ := Aside0.mk (blk_below (g := gb111) (o := .cells #[.string (⟨#[]⟩ : ByteArray),.string (⟨#[]⟩ : ByteArray),.string (⟨#[]⟩ : ByteArray)] 26 (0,0)) (by (with_reducible repeat (first | refine blk_drewN ?_ _ | refine blk_drew ?_ | refine blk_alloc ?_ _));refine blk_far ?_ NB111_122.out _;(with_reducible repeat (first | refine blk_drewN ?_ _ | refine blk_drew ?_ | refine blk_alloc ?_ _));refine blk_far ?_ NB111_122.out _;(with_reducible repeat (first | refine blk_drewN ?_ _ | refine blk_drew ?_ | refine blk_alloc ?_ _));refine blk_far ?_ NB111_122.out _;(with_reducible repeat (first | refine blk_drewN ?_ _ | refine blk_drew ?_ | refine blk_alloc ?_ _));exact BK111.out) hb);have n1_ := Aside0.mk (blk_below (g := gb122) (o := .cells #[.string t121,.string t118,.string (⟨#[]⟩ : ByteArray)] 26 (0,0)) (by (with_reducible repeat (first | refine blk_drewN ?_ _ | refine blk_drew ?_ | refine blk_alloc ?_ _));refine blk_put (cs := #[.string t121,.string t118,.string (⟨#[]⟩ : ByteArray)]) ?_ 2 _ rfl;(with_reducible repeat (first | refine blk_drewN ?_ _ | refine blk_drew ?_ | refine blk_alloc ?_ _));refine blk_put (cs := #[.string t121,.string (⟨#[]⟩ : ByteArray),.string (⟨#[]⟩ : ByteArray)]) ?_ 1 _ rfl;(with_reducible repeat (first | refine blk_drewN ?_ _ | refine blk_drew ?_ | refine blk_alloc ?_ _));refine blk_put (cs := #[.string (⟨#[]⟩ : ByteArray),.string (⟨#[]⟩ : ByteArray),.string (⟨#[]⟩ : ByteArray)]) ?_ 0 _ rfl;(with_reducible repeat (first | refine blk_drewN ?_ _ | refine blk_drew ?_ | refine blk_alloc ?_ _));exact BK122.out) hb);have n2_ := Aside0.mk (below_step (by repeat (first | (with_reducible first | exact HB.out | apply below_alloc | apply pw_below_drewN | apply below_drew1 | refine below_set ?_ GE111.out | refine below_set ?_ GE122.out) | exact HB.out)) hb);clear BK111;clear BK122;clear HB;have BK111 := n0_;have BK122 := n1_;have HB := n2_;clear n0_ n1_ n2_;(try clear hb);(try clear hb2);(try clear hk);(try clear hi)) | ((with_reducible refine gate_callee (f := 31) rfl ?_);refine goesL_ (some 74) rfl rfl Tryz.func31 (by kernel_rfl) rfl #[.string (t114.extract ((ji19) : Int).toNat t114.size)] rfl (by (try simp only [List.map_toArray,List.map_cons,List.map_nil]);first | done | (simp only [hji19];rfl) | rfl | (simp only [List.length_drop,List.length_take];rfl)) ?_;(with_reducible refine (refs_end.calls (t114.extract ((ji19) : Int).toNat t114.size) t126 true _ A33.out).mono ?_);rintro e w41 ⟨rfl,hb⟩;refine ⟨_,rfl,?_⟩;have n0_ := Aside0.mk (blk_below (g := gb111) (o := .cells #[.string (⟨#[]⟩ : ByteArray),.string (⟨#[]⟩ : ByteArray),.string (⟨#[]⟩ : ByteArray)] 26 (0,0)) (by (with_reducible repeat (first | refine blk_drewN ?_ _ | refine blk_drew ?_ | refine blk_alloc ?_ _));exact BK111.out) hb);have n1_ := Aside0.mk (blk_below (g := gb122) (o := .cells #[.string t121,.string t118,.string (⟨#[]⟩ : ByteArray)] 26 (0,0)) (by (with_reducible repeat (first | refine blk_drewN ?_ _ | refine blk_drew ?_ | refine blk_alloc ?_ _));exact BK122.out) hb);have n2_ := Aside0.mk (below_step (by repeat (first | (with_reducible first | exact HB.out | apply below_alloc | apply pw_below_drewN | apply below_drew1 | refine below_set ?_ GE111.out | refine below_set ?_ GE122.out) | exact HB.out)) hb);clear BK111;clear BK122;clear HB;have BK111 := n0_;have BK122 := n1_;have HB := n2_;clear n0_ n1_ n2_;(try clear hb);(try clear hb2);(try clear hk);(try clear hi);have hcz42_0 : w41.cell? ⟨gb122,0,none⟩ = some (.string t121) := (blk_cell BK122.out 0).trans rfl;have hcz42_1 : w41.cell? ⟨gb122,1,none⟩ = some (.string t118) := (blk_cell BK122.out 1).trans rfl;have hcz42_2 : w41.cell? ⟨gb122,2,none⟩ = some (.string (⟨#[]⟩ : ByteArray)) := (blk_cell BK122.out 2).trans rfl;have hfz42_0 := blk_frozen BK122.out 0;have hfz42_1 := blk_frozen BK122.out 1;have hfz42_2 := blk_frozen BK122.out 2;have hcz43_0 : w41.cell? ⟨gb111,0,none⟩ = some (.string (⟨#[]⟩ : ByteArray)) := (blk_cell BK111.out 0).trans rfl;have hcz43_1 : w41.cell? ⟨gb111,1,none⟩ = some (.string (⟨#[]⟩ : ByteArray)) := (blk_cell BK111.out 1).trans rfl;have hcz43_2 : w41.cell? ⟨gb111,2,none⟩ = some (.string (⟨#[]⟩ : ByteArray)) := (blk_cell BK111.out 2).trans rfl;have hfz43_0 := blk_frozen BK111.out 0;have hfz43_1 := blk_frozen BK111.out 1;have hfz43_2 := blk_frozen BK111.out 2))
                          refine bodyPost_ret (results_ct rfl _ _ gb111 26 #[.string t121,.string t118,.string (⟨#[]⟩ : ByteArray)] (0,0) _ rfl (by (with_reducible repeat (first | refine blk_drewN ?_ _ | refine blk_drew ?_ | refine blk_alloc ?_ _));refine blk_put (cs := #[.string t121,.string t118,.string (⟨#[]⟩ : ByteArray)]) ?_ 2 _ rfl;(with_reducible repeat (first | refine blk_drewN ?_ _ | refine blk_drew ?_ | refine blk_alloc ?_ _));refine blk_put (cs := #[.string t121,.string (⟨#[]⟩ : ByteArray),.string (⟨#[]⟩ : ByteArray)]) ?_ 1 _ rfl;(with_reducible repeat (first | refine blk_drewN ?_ _ | refine blk_drew ?_ | refine blk_alloc ?_ _));refine blk_put (cs := #[.string (⟨#[]⟩ : ByteArray),.string (⟨#[]⟩ : ByteArray),.string (⟨#[]⟩ : ByteArray)]) ?_ 0 _ rfl;(with_reducible repeat (first | refine blk_drewN ?_ _ | refine blk_drew ?_ | refine blk_alloc ?_ _));exact BK111.out) Tryz.underlying26 rfl (by kernel_rfl)) rfl ?_
                          exact ⟨by first | rfl | exact retNe _ | (simp [errW_none,errW_some] <;> rfl) | (simp only [← hji19];first | rfl | (simp [errW_none,errW_some] <;> rfl)) | (simp [*,errW_none,errW_some] <;> rfl),by repeat (first | (with_reducible first | exact HB.out | apply below_alloc | apply pw_below_drewN | apply below_drew1 | refine below_set ?_ GE111.out | refine below_set ?_ GE122.out) | exact HB.out)⟩
                        · replace c34 := Bool.eq_false_iff.mpr c34
                          subst c34
                          have H1 : (some ((⟨#[]⟩ : ByteArray),(⟨#[]⟩ : ByteArray),(⟨#[]⟩ : ByteArray),0)) = some (r1,r2,r3,r4) := by rw [if_neg (show ¬ (false = true) by decide)] at H;exact H
                          clear H
                          have H := H1
                          clear H1
                          simp only [Option.some.injEq,Prod.mk.injEq] at H
                          obtain ⟨rfl,rfl,rfl,rfl⟩ := H
                          go_wp2_with (first | ((with_reducible refine gate_callee (f := 29) rfl ?_);refine goesL_ (some 47) rfl rfl Tryz.func29 (by kernel_rfl) rfl #[.string (t114.extract (t116 : Int).toNat t114.size)] rfl (by (try simp only [List.map_toArray,List.map_cons,List.map_nil]);first | done | rfl | (simp only [List.length_drop,List.length_take];rfl)) ?_;(with_reducible refine (link_Dest.calls (t114.extract (t116 : Int).toNat t114.size) t118 t119 true _ ?side1 A17.out).mono ?_);(case side1 => exact Laid.go hLd (by repeat (first | (with_reducible first | exact HB.out | apply below_alloc | apply pw_below_drewN | apply below_drew1 | refine below_set ?_ GE111.out) | exact HB.out)));rintro e w44 ⟨rfl,hb⟩;refine ⟨_,rfl,?_⟩;have n0_ := Aside0.mk (blk_below (g := gb111) (o := .cells #[.string (⟨#[]⟩ : ByteArray),.string (⟨#[]⟩ : ByteArray),.string (⟨#[]⟩ : ByteArray)] 26 (0,0)) (by (with_reducible repeat (first | refine blk_drewN ?_ _ | refine blk_drew ?_ | refine blk_alloc ?_ _));exact BK111.out) hb);have n1_ := Aside0.mk (below_step (by repeat (first | (with_reducible first | exact HB.out | apply below_alloc | apply pw_below_drewN | apply below_drew1 | refine below_set ?_ GE111.out) | exact HB.out)) hb);clear BK111;clear HB;have BK111 := n0_;have HB := n1_;clear n0_ n1_;(try clear hb);(try clear hb2);(try clear hk);(try clear hi)) | ((with_reducible refine gate_callee (f := 19) rfl ?_);refine goesL_ (some 60) rfl rfl Tryz.func19 (by kernel_rfl) rfl #[.string t112] rfl (by (try simp only [List.map_toArray,List.map_cons,List.map_nil]);first | done | rfl | (simp only [List.length_drop,List.length_take];rfl)) ?_;(with_reducible refine (class_Label.calls t112 t121 _ ?side1 A22.out).mono ?_);(case side1 => exact Laid.go hLd (by repeat (first | (with_reducible first | exact HB.out | apply below_alloc | apply pw_below_drewN | apply below_drew1 | refine below_set ?_ GE111.out) | exact HB.out)));rintro e w45 ⟨rfl,hb⟩;refine ⟨_,rfl,?_⟩;have n0_ := Aside0.mk (blk_below (g := gb111) (o := .cells #[.string (⟨#[]⟩ : ByteArray),.string (⟨#[]⟩ : ByteArray),.string (⟨#[]⟩ : ByteArray)] 26 (0,0)) (by (with_reducible repeat (first | refine blk_drewN ?_ _ | refine blk_drew ?_ | refine blk_alloc ?_ _));exact BK111.out) hb);have n1_ := Aside0.mk (below_step (by repeat (first | (with_reducible first | exact HB.out | apply below_alloc | apply pw_below_drewN | apply below_drew1 | refine below_set ?_ GE111.out) | exact HB.out)) hb);clear BK111;clear HB;have BK111 := n0_;have HB := n1_;clear n0_ n1_;(try clear hb);(try clear hb2);(try clear hk);(try clear hi)) | ((with_reducible refine gate_dst (N := 12) rfl ?_);refine box_event ?hg (N := 12) ?hd (cs := #[.string (⟨#[]⟩ : ByteArray),.string (⟨#[]⟩ : ByteArray),.string (⟨#[]⟩ : ByteArray)]) (t := 26) ?hr ?_;(case hd => rfl);(case hg => rfl);(case hr => first | (go_simp;done) | (go_simp;rfl));intro gb122 hg w46 hbox hb;have n0_ := Aside0.mk (blk_below (g := gb111) (o := .cells #[.string (⟨#[]⟩ : ByteArray),.string (⟨#[]⟩ : ByteArray),.string (⟨#[]⟩ : ByteArray)] 26 (0,0)) (by (with_reducible repeat (first | refine blk_drewN ?_ _ | refine blk_drew ?_ | refine blk_alloc ?_ _));exact BK111.out) hb);have n1_ := Aside0.mk (below_step (by repeat (first | (with_reducible first | exact HB.out | apply below_alloc | apply pw_below_drewN | apply below_drew1 | refine below_set ?_ GE111.out) | exact HB.out)) hb);have n2_ := Aside0.mk (hbox);have n3_ := Aside0.mk ((by rw [hg];exact (below_size (by repeat (first | (with_reducible first | exact HB.out | apply below_alloc | apply pw_below_drewN | apply below_drew1 | refine below_set ?_ GE111.out) | exact HB.out))) : w.heap.size ≤ gb122));have n4_ := Aside0.mk ((by rw [hg];exact (below_size (by repeat (first | (with_reducible first | exact HB.out | apply below_alloc | apply pw_below_drewN | apply below_drew1 | refine below_set ?_ GE111.out) | exact HB.out))) : w.heap.size ≤ gb122));have n5_ := Aside0.mk ((by rw [hg];exact Nat.ne_of_lt (blk_lt (g := gb111) (o := .cells #[.string (⟨#[]⟩ : ByteArray),.string (⟨#[]⟩ : ByteArray),.string (⟨#[]⟩ : ByteArray)] 26 (0,0)) (by (with_reducible repeat (first | refine blk_drewN ?_ _ | refine blk_drew ?_ | refine blk_alloc ?_ _));exact BK111.out)) : gb111 ≠ gb122));have n6_ := Aside0.mk ((by rw [hg];exact Nat.ne_of_gt (blk_lt (g := gb111) (o := .cells #[.string (⟨#[]⟩ : ByteArray),.string (⟨#[]⟩ : ByteArray),.string (⟨#[]⟩ : ByteArray)] 26 (0,0)) (by (with_reducible repeat (first | refine blk_drewN ?_ _ | refine blk_drew ?_ | refine blk_alloc ?_ _));exact BK111.out)) : gb122 ≠ gb111));clear BK111;clear HB;have BK111 := n0_;have HB := n1_;have BK122 := n2_;have GW122 := n3_;have GE122 := n4_;have NB111_122 := n5_;have NB122_111 := n6_;clear n0_ n1_ n2_ n3_ n4_ n5_ n6_;clear hb hbox hg;have hnb47 := NB122_111.out;have hnc47 := NB111_122.out;have hcz48_0 : w46.cell? ⟨gb122,0,none⟩ = some (.string (⟨#[]⟩ : ByteArray)) := (blk_cell BK122.out 0).trans rfl;have hcz48_1 : w46.cell? ⟨gb122,1,none⟩ = some (.string (⟨#[]⟩ : ByteArray)) := (blk_cell BK122.out 1).trans rfl;have hcz48_2 : w46.cell? ⟨gb122,2,none⟩ = some (.string (⟨#[]⟩ : ByteArray)) := (blk_cell BK122.out 2).trans rfl;have hfz48_0 := blk_frozen BK122.out 0;have hfz48_1 := blk_frozen BK122.out 1;have hfz48_2 := blk_frozen BK122.out 2) | ((with_reducible refine gate_callee (f := 30) rfl ?_);refine goesL_ (some 65) rfl rfl Tryz.func30 (by kernel_rfl) rfl #[.string (t114.extract ((ji19) : Int).toNat t114.size)] rfl (by (try simp only [List.map_toArray,List.map_cons,List.map_nil]);first | done | (simp only [hji19];rfl) | rfl | (simp only [List.length_drop,List.length_take];rfl)) ?_;(with_reducible refine (refs_titled.calls kj6 (t114.extract ((ji19) : Int).toNat t114.size) t123 t124 false _ ?side1 A23.out).mono ?_);(case side1 => exact Laid.go hLd (by repeat (first | (with_reducible first | exact HB.out | apply below_alloc | apply pw_below_drewN | apply below_drew1 | refine below_set ?_ GE111.out | refine below_set ?_ GE122.out) | exact HB.out)));rintro e w49 ⟨rfl,hb⟩;refine ⟨_,rfl,?_⟩;have n0_ := Aside0.mk (blk_below (g := gb111) (o := .cells #[.string (⟨#[]⟩ : ByteArray),.string (⟨#[]⟩ : ByteArray),.string (⟨#[]⟩ : ByteArray)] 26 (0,0)) (by (with_reducible repeat (first | refine blk_drewN ?_ _ | refine blk_drew ?_ | refine blk_alloc ?_ _));refine blk_far ?_ NB111_122.out _;(with_reducible repeat (first | refine blk_drewN ?_ _ | refine blk_drew ?_ | refine blk_alloc ?_ _));refine blk_far ?_ NB111_122.out _;(with_reducible repeat (first | refine blk_drewN ?_ _ | refine blk_drew ?_ | refine blk_alloc ?_ _));refine blk_far ?_ NB111_122.out _;(with_reducible repeat (first | refine blk_drewN ?_ _ | refine blk_drew ?_ | refine blk_alloc ?_ _));exact BK111.out) hb);have n1_ := Aside0.mk (blk_below (g := gb122) (o := .cells #[.string t121,.string t118,.string (⟨#[]⟩ : ByteArray)] 26 (0,0)) (by (with_reducible repeat (first | refine blk_drewN ?_ _ | refine blk_drew ?_ | refine blk_alloc ?_ _));refine blk_put (cs := #[.string t121,.string t118,.string (⟨#[]⟩ : ByteArray)]) ?_ 2 _ rfl;(with_reducible repeat (first | refine blk_drewN ?_ _ | refine blk_drew ?_ | refine blk_alloc ?_ _));refine blk_put (cs := #[.string t121,.string (⟨#[]⟩ : ByteArray),.string (⟨#[]⟩ : ByteArray)]) ?_ 1 _ rfl;(with_reducible repeat (first | refine blk_drewN ?_ _ | refine blk_drew ?_ | refine blk_alloc ?_ _));refine blk_put (cs := #[.string (⟨#[]⟩ : ByteArray),.string (⟨#[]⟩ : ByteArray),.string (⟨#[]⟩ : ByteArray)]) ?_ 0 _ rfl;(with_reducible repeat (first | refine blk_drewN ?_ _ | refine blk_drew ?_ | refine blk_alloc ?_ _));exact BK122.out) hb);have n2_ := Aside0.mk (below_step (by repeat (first | (with_reducible first | exact HB.out | apply below_alloc | apply pw_below_drewN | apply below_drew1 | refine below_set ?_ GE111.out | refine below_set ?_ GE122.out) | exact HB.out)) hb);clear BK111;clear BK122;clear HB;have BK111 := n0_;have BK122 := n1_;have HB := n2_;clear n0_ n1_ n2_;(try clear hb);(try clear hb2);(try clear hk);(try clear hi)) | ((with_reducible refine gate_callee (f := 31) rfl ?_);refine goesL_ (some 74) rfl rfl Tryz.func31 (by kernel_rfl) rfl #[.string (t114.extract ((ji19) : Int).toNat t114.size)] rfl (by (try simp only [List.map_toArray,List.map_cons,List.map_nil]);first | done | (simp only [hji19];rfl) | rfl | (simp only [List.length_drop,List.length_take];rfl)) ?_;(with_reducible refine (refs_end.calls (t114.extract ((ji19) : Int).toNat t114.size) t126 false _ A33.out).mono ?_);rintro e w50 ⟨rfl,hb⟩;refine ⟨_,rfl,?_⟩;have n0_ := Aside0.mk (blk_below (g := gb111) (o := .cells #[.string (⟨#[]⟩ : ByteArray),.string (⟨#[]⟩ : ByteArray),.string (⟨#[]⟩ : ByteArray)] 26 (0,0)) (by (with_reducible repeat (first | refine blk_drewN ?_ _ | refine blk_drew ?_ | refine blk_alloc ?_ _));exact BK111.out) hb);have n1_ := Aside0.mk (blk_below (g := gb122) (o := .cells #[.string t121,.string t118,.string (⟨#[]⟩ : ByteArray)] 26 (0,0)) (by (with_reducible repeat (first | refine blk_drewN ?_ _ | refine blk_drew ?_ | refine blk_alloc ?_ _));exact BK122.out) hb);have n2_ := Aside0.mk (below_step (by repeat (first | (with_reducible first | exact HB.out | apply below_alloc | apply pw_below_drewN | apply below_drew1 | refine below_set ?_ GE111.out | refine below_set ?_ GE122.out) | exact HB.out)) hb);clear BK111;clear BK122;clear HB;have BK111 := n0_;have BK122 := n1_;have HB := n2_;clear n0_ n1_ n2_;(try clear hb);(try clear hb2);(try clear hk);(try clear hi);have hcz51_0 : w50.cell? ⟨gb111,0,none⟩ = some (.string (⟨#[]⟩ : ByteArray)) := (blk_cell BK111.out 0).trans rfl;have hcz51_1 : w50.cell? ⟨gb111,1,none⟩ = some (.string (⟨#[]⟩ : ByteArray)) := (blk_cell BK111.out 1).trans rfl;have hcz51_2 : w50.cell? ⟨gb111,2,none⟩ = some (.string (⟨#[]⟩ : ByteArray)) := (blk_cell BK111.out 2).trans rfl;have hfz51_0 := blk_frozen BK111.out 0;have hfz51_1 := blk_frozen BK111.out 1;have hfz51_2 := blk_frozen BK111.out 2))
                          refine bodyPost_ret (results_ct rfl _ _ gb111 26 #[.string (⟨#[]⟩ : ByteArray),.string (⟨#[]⟩ : ByteArray),.string (⟨#[]⟩ : ByteArray)] (0,0) _ rfl (by (with_reducible repeat (first | refine blk_drewN ?_ _ | refine blk_drew ?_ | refine blk_alloc ?_ _));refine blk_put (cs := #[.string (⟨#[]⟩ : ByteArray),.string (⟨#[]⟩ : ByteArray),.string (⟨#[]⟩ : ByteArray)]) ?_ 2 _ rfl;(with_reducible repeat (first | refine blk_drewN ?_ _ | refine blk_drew ?_ | refine blk_alloc ?_ _));refine blk_put (cs := #[.string (⟨#[]⟩ : ByteArray),.string (⟨#[]⟩ : ByteArray),.string (⟨#[]⟩ : ByteArray)]) ?_ 1 _ rfl;(with_reducible repeat (first | refine blk_drewN ?_ _ | refine blk_drew ?_ | refine blk_alloc ?_ _));refine blk_put (cs := #[.string (⟨#[]⟩ : ByteArray),.string (⟨#[]⟩ : ByteArray),.string (⟨#[]⟩ : ByteArray)]) ?_ 0 _ rfl;(with_reducible repeat (first | refine blk_drewN ?_ _ | refine blk_drew ?_ | refine blk_alloc ?_ _));exact BK111.out) Tryz.underlying26 rfl (by kernel_rfl)) rfl ?_
                          exact ⟨by first | rfl | exact retNe _ | (simp [errW_none,errW_some] <;> rfl) | (simp only [← hji19];first | rfl | (simp [errW_none,errW_some] <;> rfl)) | (simp [*,errW_none,errW_some] <;> rfl),by repeat (first | (with_reducible first | exact HB.out | apply below_alloc | apply pw_below_drewN | apply below_drew1 | refine below_set ?_ GE111.out | refine below_set ?_ GE122.out) | exact HB.out)⟩
                    · rw [if_neg c21] at H
                      exact absurd H (by simp)
                  · rw [if_neg c20] at H
                    exact absurd H (by simp)
                · replace c18 := Bool.eq_false_iff.mpr c18
                  subst c18
                  have H1 : (some ((⟨#[]⟩ : ByteArray),(⟨#[]⟩ : ByteArray),(⟨#[]⟩ : ByteArray),0)) = some (r1,r2,r3,r4) := by rw [if_neg (show ¬ (false = true) by decide)] at H;exact H
                  clear H
                  have H := H1
                  clear H1
                  simp only [Option.some.injEq,Prod.mk.injEq] at H
                  obtain ⟨rfl,rfl,rfl,rfl⟩ := H
                  go_wp2_with (first | ((with_reducible refine gate_callee (f := 29) rfl ?_);refine goesL_ (some 47) rfl rfl Tryz.func29 (by kernel_rfl) rfl #[.string (t114.extract (t116 : Int).toNat t114.size)] rfl (by (try simp only [List.map_toArray,List.map_cons,List.map_nil]);first | done | rfl | (simp only [List.length_drop,List.length_take];rfl)) ?_;(with_reducible refine (link_Dest.calls (t114.extract (t116 : Int).toNat t114.size) t118 t119 false _ ?side1 A17.out).mono ?_);(case side1 => exact Laid.go hLd (by repeat (first | (with_reducible first | exact HB.out | apply below_alloc | apply pw_below_drewN | apply below_drew1 | refine below_set ?_ GE111.out) | exact HB.out)));rintro e w52 ⟨rfl,hb⟩;refine ⟨_,rfl,?_⟩;have n0_ := Aside0.mk (blk_below (g := gb111) (o := .cells #[.string (⟨#[]⟩ : ByteArray),.string (⟨#[]⟩ : ByteArray),.string (⟨#[]⟩ : ByteArray)] 26 (0,0)) (by (with_reducible repeat (first | refine blk_drewN ?_ _ | refine blk_drew ?_ | refine blk_alloc ?_ _));exact BK111.out) hb);have n1_ := Aside0.mk (below_step (by repeat (first | (with_reducible first | exact HB.out | apply below_alloc | apply pw_below_drewN | apply below_drew1 | refine below_set ?_ GE111.out) | exact HB.out)) hb);clear BK111;clear HB;have BK111 := n0_;have HB := n1_;clear n0_ n1_;(try clear hb);(try clear hb2);(try clear hk);(try clear hi);have hcz53_0 : w52.cell? ⟨gb111,0,none⟩ = some (.string (⟨#[]⟩ : ByteArray)) := (blk_cell BK111.out 0).trans rfl;have hcz53_1 : w52.cell? ⟨gb111,1,none⟩ = some (.string (⟨#[]⟩ : ByteArray)) := (blk_cell BK111.out 1).trans rfl;have hcz53_2 : w52.cell? ⟨gb111,2,none⟩ = some (.string (⟨#[]⟩ : ByteArray)) := (blk_cell BK111.out 2).trans rfl;have hfz53_0 := blk_frozen BK111.out 0;have hfz53_1 := blk_frozen BK111.out 1;have hfz53_2 := blk_frozen BK111.out 2))
                  refine bodyPost_ret (results_ct rfl _ _ gb111 26 #[.string (⟨#[]⟩ : ByteArray),.string (⟨#[]⟩ : ByteArray),.string (⟨#[]⟩ : ByteArray)] (0,0) _ rfl (by (with_reducible repeat (first | refine blk_drewN ?_ _ | refine blk_drew ?_ | refine blk_alloc ?_ _));refine blk_put (cs := #[.string (⟨#[]⟩ : ByteArray),.string (⟨#[]⟩ : ByteArray),.string (⟨#[]⟩ : ByteArray)]) ?_ 2 _ rfl;(with_reducible repeat (first | refine blk_drewN ?_ _ | refine blk_drew ?_ | refine blk_alloc ?_ _));refine blk_put (cs := #[.string (⟨#[]⟩ : ByteArray),.string (⟨#[]⟩ : ByteArray),.string (⟨#[]⟩ : ByteArray)]) ?_ 1 _ rfl;(with_reducible repeat (first | refine blk_drewN ?_ _ | refine blk_drew ?_ | refine blk_alloc ?_ _));refine blk_put (cs := #[.string (⟨#[]⟩ : ByteArray),.string (⟨#[]⟩ : ByteArray),.string (⟨#[]⟩ : ByteArray)]) ?_ 0 _ rfl;(with_reducible repeat (first | refine blk_drewN ?_ _ | refine blk_drew ?_ | refine blk_alloc ?_ _));exact BK111.out) Tryz.underlying26 rfl (by kernel_rfl)) rfl ?_
                  exact ⟨by first | rfl | exact retNe _ | (simp [errW_none,errW_some] <;> rfl) | (simp [*,errW_none,errW_some] <;> rfl),by repeat (first | (with_reducible first | exact HB.out | apply below_alloc | apply pw_below_drewN | apply below_drew1 | refine below_set ?_ GE111.out) | exact HB.out)⟩
              · rw [if_neg c16] at H
                exact absurd H (by simp)
            · rw [if_neg c15] at H
              exact absurd H (by simp)
    · rw [if_neg c4] at H
      exact absurd H (by simp)
  · rw [if_neg c3] at H
    exact absurd H (by simp)


end Go.Proofs.YtekifcbokdidlaaGreatDoor.PA

namespace Go.Proofs.YtekifcbokdidlaaGreatDoor.Pure
open Go.RowKit Go.Proofs.YtekifcbokdidlaaGreatDoorW.PrintWords Go.Proofs.YtekifcbokdidlaaGreatDoorW.PrintMore Go.Proofs.YtekifcbokdidlaaGreatDoor.Pl Go.Proofs.YtekifcbokdidlaaGreatDoor.PA

theorem white_f (s : List UInt8) (h : s.length ≤ 1099511627776) : link_White.f (B s) = some (wht s : Int) := by
  unfold link_White.f strings_TrimLeft.f
  have h1 := trim_le s [32,9,10]
  have e : (⟨(Lib.trimLeftS s [32,9,10]).toArray⟩ : ByteArray).size = (Lib.trimLeftS s [32,9,10]).length := B_size _
  rw [if_pos ⟨by rw [B_size];omega,by decide,by decide⟩,Option.bind_some,B_data,show (⟨#[32,9,10]⟩ : ByteArray).data.toList = [32,9,10] from rfl,B_size,e,wht_int]
  have := wht_le s
  rw [w64 (by omega) (by omega)]
theorem label_f (s : List UInt8) (h : s.length ≤ 1048576) : link_Label.f (B s) = some (B (lab s).1,((lab s).2 : Int)) := by
  unfold link_Label.f
  rw [if_pos (by rw [B_size];exact h),B_data]
theorem dest_f (s : List UInt8) (h : s.length ≤ 1048576) : link_Dest.f (B s) = some (B (dst s).1,((dst s).2.1 : Int),(dst s).2.2) := by
  unfold link_Dest.f
  rw [if_pos (by rw [B_size];exact h),B_data]
theorem title_f (s : List UInt8) (h : s.length ≤ 1048576) : link_Title.f (B s) = some (B (ttl s).1,((ttl s).2 : Int)) := by
  unfold link_Title.f
  rw [if_pos (by rw [B_size];exact h),B_data]
theorem drop_lt {t : List UInt8} {E : Nat} {y : UInt8} {u : List UInt8} (h : t.drop E = y :: u) : E < t.length := by
  rcases Nat.lt_or_ge E t.length with h1 | h1
  · exact h1
  · rw [List.drop_eq_nil_of_le h1] at h;cases h
theorem lab_le (s : List UInt8) : (lab s).2 ≤ s.length := by
  cases s with
  | nil => exact Nat.le_refl _
  | cons x t =>
    rw [lab_cons]
    split
    · split
      · exact Nat.zero_le _
      · rename_i y u h
        have := drop_lt h
        split
        · exact Nat.zero_le _
        · show eachL pLab t + 2 ≤ t.length + 1;omega
    · exact Nat.zero_le _
theorem ang_le (t : List UInt8) : (ang t).2.1 ≤ t.length + 1 := by
  unfold ang
  split
  · exact Nat.zero_le _
  · rename_i y u h
    have := drop_lt h
    split
    · show eachL pAng t + 2 ≤ t.length + 1;omega
    · exact Nat.zero_le _
theorem dst_le (s : List UInt8) : (dst s).2.1 ≤ s.length := by
  unfold dst
  split
  · rename_i h
    cases s with
    | nil => cases h
    | cons x t => exact ang_le t
  · split
    · exact Nat.zero_le _
    · exact (dstL_le s 0 false).1
theorem ttl_le (s : List UInt8) : (ttl s).2 ≤ s.length := by
  cases s with
  | nil => exact Nat.le_refl _
  | cons x t =>
    rw [ttl_cons]
    split
    · exact Nat.zero_le _
    · split
      · exact Nat.zero_le _
      · rename_i y u h
        have := drop_lt h
        split
        · split
          · exact Nat.zero_le _
          · show eachL (pTit (cls (x :: t))) t + 2 ≤ t.length + 1;omega
        · exact Nat.zero_le _
theorem nn (n : Nat) : (0 : Int) ≤ (n : Int) := Int.natCast_nonneg n
theorem szl {s : List UInt8} {n : Nat} (h : n ≤ s.length) : (n : Int) ≤ ((B s).size : Int) := by rw [B_size];exact Int.ofNat_le.2 h
theorem wadd {a b : Nat} (h : a + b ≤ 1048577) : wrap64 ((a : Int) + (b : Int)) = ((a + b : Nat) : Int) := by rw [w64 (by omega) (by omega)];omega
theorem dlen (s : List UInt8) (n : Nat) (hs : s.length ≤ 1048576) : (s.drop n).length ≤ 1048576 := by rw [List.length_drop];omega
end Go.Proofs.YtekifcbokdidlaaGreatDoor.Pure

namespace Go.Proofs.YtekifcbokdidlaaGreatDoor.Pure
open Go.RowKit Go.Proofs.YtekifcbokdidlaaGreatDoorW.PrintWords Go.Proofs.YtekifcbokdidlaaGreatDoorW.PrintMore Go.Proofs.YtekifcbokdidlaaGreatDoor.Pl Go.Proofs.YtekifcbokdidlaaGreatDoor.PA

theorem each_stop (p : UInt8 → Bool) (hp : p 92 = false) (y : UInt8) (t : List UInt8) (h : p y = true) : eachL p (y :: t) = 0 := by
  rw [each_one p y t (fun e => by rw [e,hp] at h;cases h),if_pos h]
theorem each_plain (p : UInt8 → Bool) : ∀ (s t : List UInt8),(∀ x ∈ s,x ≠ 92 ∧ p x = false) → eachL p (s ++ t) = s.length + eachL p t
  | [],t,_ => by simp
  | x :: s,t,h => by
    have hx := h x (by simp)
    rw [List.cons_append,each_one p x _ (fun e => absurd e hx.1),if_neg (by rw [hx.2];decide),each_plain p s t (fun y hy => h y (by simp [hy])),List.length_cons]
    omega
theorem lab_at (s t : List UInt8) (y : UInt8) (he : eachL pLab (s ++ y :: t) = s.length) :
    lab (91 :: (s ++ y :: t)) = if y = 91 ∨ 999 < s.length ∨ wht s = s.length then ([],0) else (s,s.length + 2) := by
  have h1 : (s ++ y :: t).drop s.length = y :: t := List.drop_left' rfl
  have h2 : (s ++ y :: t).take s.length = s := List.take_left' rfl
  have e : lab (91 :: (s ++ y :: t)) = match (s ++ y :: t).drop (eachL pLab (s ++ y :: t)) with
      | [] => ([],0)
      | z :: _ => if z = 91 ∨ 999 < eachL pLab (s ++ y :: t) ∨ wht ((s ++ y :: t).take (eachL pLab (s ++ y :: t))) = eachL pLab (s ++ y :: t) then ([],0) else ((s ++ y :: t).take (eachL pLab (s ++ y :: t)),eachL pLab (s ++ y :: t) + 2) := rfl
  rw [e,he,h1,h2]
theorem lab_no (x : UInt8) (t : List UInt8) (h : x ≠ 91) : lab (x :: t) = ([],0) := if_neg h
theorem pLab_92 : pLab 92 = false := by decide
theorem pTit_92 (e : UInt8) (h : e ≠ 92) : pTit e 92 = false := by unfold pTit;rw [decide_eq_false (fun x => h x.symm)];rfl
theorem gp_none : ∀ (t : List UInt8) (b : Bool),(10 : UInt8) ∉ t → gp b t = false
  | [],_,_ => rfl
  | x :: t,b,h => by
    rw [List.mem_cons,not_or] at h
    rw [gp,if_neg (fun e => h.1 e.symm),gp_none t _ h.2]
theorem dst_plain : ∀ (s : List UInt8) (y : UInt8) (t : List UInt8) (o : Nat) (d : Bool),(∀ x ∈ s,x ≠ 92 ∧ 32 < x.toNat ∧ x ≠ 127 ∧ x ≠ 40 ∧ x ≠ 41) → dstp o y = true → dstL (s ++ y :: t) o d = (s.length,o,d)
  | [],y,t,o,d,_,hy => by
    rw [List.nil_append,dst_one y t o d (fun e => by rw [e,dstp_92] at hy;cases hy),if_pos hy]
    rfl
  | x :: s,y,t,o,d,h,hy => by
    obtain ⟨h1,h2,h3,h4,h5⟩ := h x (by simp)
    have hp : dstp o x = false := by
      unfold dstp
      rw [decide_eq_false (by omega),decide_eq_false h3,decide_eq_false h5]
      rfl
    have ho : dsto o x = o := by unfold dsto;rw [if_neg h5,if_neg h4]
    have hd : dstd o d x = d := by unfold dstd;rw [if_neg h4]
    rw [List.cons_append,dst_one x _ o d (fun e => absurd e h1),if_neg (by rw [hp];decide),ho,hd,dst_plain s y t o d (fun z hz => h z (by simp [hz])) hy,List.length_cons]
/-- Is a byte a small letter or a digit? -/
def okA (x : UInt8) : Prop := 97 ≤ x.toNat ∧ x.toNat ≤ 122 ∨ 48 ≤ x.toNat ∧ x.toNat ≤ 57
theorem okA_ne {x : UInt8} (h : okA x) (n : Nat) (hn : n < 256) (h2 : ¬ (97 ≤ n ∧ n ≤ 122 ∨ 48 ≤ n ∧ n ≤ 57)) : x ≠ UInt8.ofNat n := by
  rintro rfl
  unfold okA at h
  rw [UInt8.toNat_ofNat'] at h
  omega
theorem okA_all {x : UInt8} (h : okA x) : x ≠ 92 ∧ x ≠ 38 ∧ x ≠ 127 ∧ x ≠ 40 ∧ x ≠ 41 ∧ x ≠ 60 ∧ x ≠ 62 ∧ x ≠ 10 ∧ x ≠ 34 ∧ x ≠ 39 ∧ x ≠ 32 ∧ x ≠ 9 ∧ x ≠ 91 ∧ x ≠ 93 ∧ x ≠ 58 ∧ 32 < x.toNat :=
  ⟨okA_ne h 92 (by decide) (by decide),okA_ne h 38 (by decide) (by decide),okA_ne h 127 (by decide) (by decide),okA_ne h 40 (by decide) (by decide),okA_ne h 41 (by decide) (by decide),okA_ne h 60 (by decide) (by decide),okA_ne h 62 (by decide) (by decide),okA_ne h 10 (by decide) (by decide),okA_ne h 34 (by decide) (by decide),okA_ne h 39 (by decide) (by decide),okA_ne h 32 (by decide) (by decide),okA_ne h 9 (by decide) (by decide),okA_ne h 91 (by decide) (by decide),okA_ne h 93 (by decide) (by decide),okA_ne h 58 (by decide) (by decide),by unfold okA at h;omega⟩
theorem une_okA (s : List UInt8) (h : ∀ x ∈ s,okA x) : une s = s := by
  have e := une_cut s [] (fun x hx => ⟨(okA_all (h x hx)).1,(okA_all (h x hx)).2.1⟩)
  rw [List.append_nil,une_nil,List.append_nil] at e
  exact e
theorem wsp_okA {x : UInt8} (h : okA x) : wsp x = false := by
  obtain ⟨_,_,_,_,_,_,_,h10,_,_,h32,h9,_⟩ := okA_all h
  unfold wsp
  rw [decide_eq_false h32,decide_eq_false h9,decide_eq_false h10]
  rfl
/-- An address of letters, with an end behind it. -/
theorem dst_okA (s : List UInt8) (y : UInt8) (t : List UInt8) (h : ∀ x ∈ s,okA x) (hne : s ≠ []) (hy : dstp 0 y = true) : dst (s ++ y :: t) = (s,s.length,true) := by
  have hd := dst_plain s y t 0 false (fun x hx => by obtain ⟨a,_,b,c,d,_,_,_,_,_,_,_,_,_,_,e⟩ := okA_all (h x hx);exact ⟨a,e,b,c,d⟩) hy
  have hh : (s ++ y :: t).head? ≠ some 60 := by
    cases s with
    | nil => exact absurd rfl hne
    | cons z r => intro e;obtain rfl := Option.some.inj e;exact (okA_all (h 60 (by simp))).2.2.2.2.2.1 rfl
  have hl : s.length ≠ 0 := fun e => hne (List.length_eq_zero_iff.1 e)
  unfold dst
  rw [if_neg hh,hd]
  simp only
  rw [if_neg (by rintro (h | h | h);exact hl h;exact absurd h (by decide);cases h),List.take_left' rfl,une_okA s h]
/-- A title of letters in quotes. -/
theorem ttl_okA (q : UInt8) (s t : List UInt8) (hq : q = 34 ∨ q = 39 ∨ q = 40) (h : ∀ x ∈ s,okA x) : ttl (q :: (s ++ (if q = 40 then 41 else q) :: t)) = (s,s.length + 2) := by
  obtain ⟨c,hc⟩ : ∃ c : UInt8,(if q = 40 then 41 else q) = c := ⟨_,rfl⟩
  have hcl : ∀ r,cls (q :: r) = c := by
    intro r
    unfold cls
    rcases hq with rfl | rfl | rfl <;> exact hc
  have hc2 : c = 34 ∨ c = 39 ∨ c = 41 := by rcases hq with rfl | rfl | rfl <;> subst hc <;> decide
  have hc0 : c ≠ 0 := by rcases hc2 with rfl | rfl | rfl <;> decide
  have hc92 : c ≠ 92 := by rcases hc2 with rfl | rfl | rfl <;> decide
  rw [hc]
  have he : eachL (pTit c) (s ++ c :: t) = s.length := by
    rw [each_plain (pTit c) s _ (fun x hx => ?_),each_stop (pTit c) (pTit_92 c hc92) c t (by unfold pTit;rw [decide_eq_true rfl];rfl),Nat.add_zero]
    obtain ⟨a,_,_,h40,h41,_,_,_,h34,h39,_⟩ := okA_all (h x hx)
    refine ⟨a,?_⟩
    unfold pTit
    rw [decide_eq_false h40,decide_eq_false (by rcases hc2 with rfl | rfl | rfl;exact h34;exact h39;exact h41)]
    rfl
  have e : ttl (q :: (s ++ c :: t)) = if cls (q :: (s ++ c :: t)) = 0 then ([],0) else
      match (s ++ c :: t).drop (eachL (pTit (cls (q :: (s ++ c :: t)))) (s ++ c :: t)) with
      | [] => ([],0)
      | y :: _ => if y = cls (q :: (s ++ c :: t)) then (if gp false ((s ++ c :: t).take (eachL (pTit (cls (q :: (s ++ c :: t)))) (s ++ c :: t))) = true then ([],0) else (une ((s ++ c :: t).take (eachL (pTit (cls (q :: (s ++ c :: t)))) (s ++ c :: t))),eachL (pTit (cls (q :: (s ++ c :: t)))) (s ++ c :: t) + 2)) else ([],0) := rfl
  rw [e,hcl,if_neg hc0,he,List.drop_left' rfl,List.take_left' rfl]
  simp only
  rw [if_pos trivial,gp_none s false (fun h10 => (okA_all (h 10 h10)).2.2.2.2.2.2.2.1 rfl),if_neg (by decide),une_okA s h]
end Go.Proofs.YtekifcbokdidlaaGreatDoor.Pure

namespace Go.Proofs.YtekifcbokdidlaaGreatDoor.Pure
open Go.RowKit Go.Proofs.YtekifcbokdidlaaGreatDoorW.PrintWords Go.Proofs.YtekifcbokdidlaaGreatDoorW.PrintMore Go.Proofs.YtekifcbokdidlaaGreatDoor.Pl Go.Proofs.YtekifcbokdidlaaGreatDoor.PA

theorem each_dec (p : UInt8 → Bool) (hp : p 92 = false) (t : List UInt8) (y : UInt8) (u : List UInt8) (h : t.drop (eachL p t) = y :: u) :
    ∃ a,t = a ++ y :: u ∧ (∀ m,eachL p (a ++ y :: m) = a.length) ∧ eachL p a = a.length ∧ p y = true := by
  have hlt := drop_lt h
  have hl : (t.take (eachL p t)).length = eachL p t := by rw [List.length_take];omega
  have ht : t = t.take (eachL p t) ++ y :: u := by rw [← h,List.take_append_drop]
  have hy : t[eachL p t] = y := by
    rw [List.drop_eq_getElem_cons hlt] at h
    exact (List.cons.inj h).1
  have ht1 : t.take (eachL p t + 1) = t.take (eachL p t) ++ [y] := by rw [← hy];exact (List.take_append_getElem hlt).symm
  refine ⟨t.take (eachL p t),ht,fun m => ?_,?_,each_at p t y u h⟩
  · have e := each_st p hp t (eachL p t + 1) m (by omega) hlt
    rw [ht1,List.append_assoc] at e
    rw [hl]
    exact e
  · rw [each_self p t (eachL_le p t),hl]
theorem lab_dec (s : List UInt8) (h : 0 < (lab s).2) : ∃ a y u,s = 91 :: (a ++ y :: u) ∧ (∀ m,lab (91 :: (a ++ y :: m)) = (a,a.length + 2)) ∧ lab (91 :: a) = ([],0) ∧ y = 93 := by
  cases s with
  | nil => exact absurd h (Nat.lt_irrefl 0)
  | cons x t =>
    by_cases hx : x = 91
    · subst hx
      cases hd : t.drop (eachL pLab t) with
      | nil =>
        exfalso
        rw [lab_cons,if_pos rfl,hd] at h
        exact absurd h (Nat.lt_irrefl 0)
      | cons y u =>
        obtain ⟨a,ht,h1,h2,h3⟩ := each_dec pLab pLab_92 t y u hd
        have hg : ¬ (y = 91 ∨ 999 < a.length ∨ wht a = a.length) := by
          intro hc
          rw [ht,lab_at a u y (h1 u),if_pos hc] at h
          exact absurd h (Nat.lt_irrefl 0)
        refine ⟨a,y,u,by rw [ht],fun m => by rw [lab_at a m y (h1 m),if_neg hg],?_,?_⟩
        · rw [lab_cons,if_pos rfl,h2,List.drop_length]
        · unfold pLab at h3
          simp only [Bool.or_eq_true,decide_eq_true_eq] at h3
          rcases h3 with h3 | h3
          · exact absurd (.inl h3) hg
          · exact h3
    · rw [lab_no x t hx] at h
      exact absurd h (Nat.lt_irrefl 0)
end Go.Proofs.YtekifcbokdidlaaGreatDoor.Pure

namespace Go.Proofs.YtekifcbokdidlaaGreatDoor.PA
open Go.RowKit Go.Shelf Go.Proofs.YtekifcbokdidlaaGreatDoorW.PrintWords Go.Proofs.YtekifcbokdidlaaGreatDoorW.PrintLast Go.Proofs.YtekifcbokdidlaaGreatDoorW.PrintMore Go.Proofs.YtekifcbokdidlaaGreatDoor.Pl
set_option linter.unusedVariables false

instance : Inhabited S26 := ⟨z26⟩
def lidx_ren : Ren := ⟨fun | 6 => 20 | n => n,fun | 22 => 22 | 23 => 26 | 25 => 42 | n => n,fun n => n⟩
theorem lidx : Go.Proofs.SlLaysH0.n6 Tryz.prog lidx_ren := {
  mixed := by kernel_rfl,
  f6 := ⟨"slices.IndexFunc[[]incipit/api.Ref,incipit/api.Ref]", of_decide_eq_true (by kernel_rfl), Tryz.func20.trans (congrArg some (by kernel_rfl))⟩,
  t0 := Tryz.underlying0,a0 := Tryz.isAgg0,z0 := Tryz.sizeOf0,v0 := Tryz.zeroValue0,t3 := Tryz.underlying3,
  a3 := Tryz.isAgg3,z3 := Tryz.sizeOf3,v3 := Tryz.zeroValue3,t4 := Tryz.underlying4,a4 := Tryz.isAgg4,
  z4 := Tryz.sizeOf4,v4 := Tryz.zeroValue4,t22 := Tryz.underlying22,a22 := Tryz.isAgg22,z22 := Tryz.sizeOf22,
  v22 := Tryz.zeroValue22,t25 := Tryz.underlying42,a25 := Tryz.isAgg42,z25 := Tryz.sizeOf42,
  v25 := Tryz.zeroValue42 }
/-- A definition's cells. -/
def encR3 (x : S26) : List Value := [.string x.f0,.string x.f1,.string x.f2]
theorem refs_lie {w : World} {A : Option Addr} {l : List S26} (h : Kd.C k26 w A l.length l) (h0 : 0 < l.length) :
    ∃ b off,A = some ⟨b,off,none⟩ ∧ b < w.heap.size ∧ ∀ j,j < l.length → ∀ i v,(encR3 l[j]!)[i]? = some v → w.cell? ⟨b,off + j * 3 + i,none⟩ = some v := by
  obtain ⟨ad,e,hc⟩ := h.2.2 h0
  have key : ∀ j,j < l.length → ∀ i v,(encR3 l[j]!)[i]? = some v → w.cell? (ad.add (j * 3 + i)) = some v := by
    intro j hj i v hi
    obtain ⟨c,hl,hr,hx⟩ := hc j _ (List.getElem?_eq_getElem hj)
    obtain rfl := k26_open hr
    have e2 : l[j]! = l[j] := by simp [hj]
    rw [e2] at hi
    exact hx i v hi
  have h00 := key 0 h0 0 (.string l[0]!.f0) rfl
  rw [show ad.add (0 * 3 + 0) = ad from rfl] at h00
  obtain ⟨b,off,sp⟩ := ad
  have hsp : sp = none := by
    cases sp with
    | none => rfl
    | some q =>
      simp only [World.cell?] at h00
      split at h00 <;> simp at h00
  subst hsp
  refine ⟨b,off,e,World.block_lt_of_cell? w _ h00,fun j hj i v hi => ?_⟩
  rw [← key j hj i v hi]
  congr 1
  unfold Addr.add
  split
  · rename_i e0
    rw [show off + j * 3 + i = off by omega]
  · rw [Nat.add_assoc]
theorem idx_empty (A0 : Option Addr) (c0 : Nat) (fv : Value) (w : World) : Calls Tryz.prog 20 #[.slice A0 0 c0,fv] w fun e w' => e = .returned (.int .i64 (-1)) ∧ Below w.heap.size w w' := by
  go_enter Tryz.func20,Tryz.ntmps20
  go_wp2
  go_loopw [8] (fun vi wr => vi = .int .i64 0 ∧ Hid (Below w.heap.size w wr)) (fun _ _ => 0)
  case atStart => exact ⟨rfl,Lib.hid (Below.refl _ _)⟩
  case round =>
    obtain ⟨rfl,HB⟩ := hrel
    go_wp2
    go_ret
    exact ⟨rfl,HB.out⟩
theorem idx_walk (A0 : Option Addr) (c0 : Nat) (l : List S26) (p : S26 → Bool) (g : Nat) (lb : Array Value) (eg : ∀ args w,(callFunc g args).run Tryz.prog w = .ok (.enter g args) w) (w : World)
    (hp : PredBelow Tryz.prog g lb (fun x => .agg (encR3 x).toArray) p w) (hC : Kd.C k26 w A0 l.length l) :
    Calls Tryz.prog 20 #[.slice A0 l.length c0,.func (.func g) #[] lb] w fun e w' => e = .returned (.int .i64 (Lib.idxBy (fun _ y => p y) l default)) ∧ Below w.heap.size w w' := by
  rcases Nat.eq_zero_or_pos l.length with h0 | h0
  · obtain rfl := List.length_eq_zero_iff.1 h0
    exact idx_empty A0 c0 _ w
  · obtain ⟨b,off,rfl,hb,hc⟩ := refs_lie hC h0
    have h := AnyQ.slices_IndexFunc lidx 3 Tryz.isAgg26 Tryz.sizeOf26 encR3 (fun _ => rfl) p g lb eg b off l.length c0 l w hp (Nat.le_refl _) (Kd.C_max hC) hb hc
    rw [List.take_length] at h
    exact h
/-- The closure of refs.Find: is that a definition's label? -/
theorem find_pred (x : ByteArray) (b : Nat) (w : World) (hb : b < w.heap.size) (hc : w.cell? ⟨b,0,none⟩ = some (.string x)) :
    PredBelow Tryz.prog 21 #[.pointer (some ⟨b,0,none⟩)] (fun y => .agg (encR3 y).toArray) (fun y => y.f0.toList == x.toList) w := fun W y hB => by
  have hc2 : W.cell? ⟨b,0,none⟩ = some (.string x) := (hB.cell (p := ⟨b,0,none⟩) hb).trans hc
  have hbW : b < W.heap.size := Nat.lt_of_lt_of_le hb hB.size
  have hne : b ≠ W.heap.size := by omega
  show Calls Tryz.prog 21 #[.agg #[.string y.f0,.string y.f1,.string y.f2],.pointer (some ⟨b,0,none⟩)] W _
  go_enter Tryz.func21,Tryz.ntmps21
  go_wp2
  go_ret
  exact ⟨rfl,hB.alloc hB.size _⟩
theorem row3_facts {w : World} {g : Nat} {a b c : ByteArray} (h : w.heap[g]? = some (.cells #[.string a,.string b,.string c] 26 (0,0))) :
    w.cell? ⟨g,0,none⟩ = some (.string a) ∧ w.cell? ⟨g,1,none⟩ = some (.string b) ∧ w.cell? ⟨g,2,none⟩ = some (.string c) ∧ w.frozen? ⟨g,0,none⟩ = false ∧ w.frozen? ⟨g,1,none⟩ = false ∧ w.frozen? ⟨g,2,none⟩ = false := by
  refine ⟨?_,?_,?_,?_,?_,?_⟩ <;> simp [World.cell?,World.frozen?,h]
/-- The definition of a label. -/
def fnd (l : List S26) (x : List UInt8) : S26 × Bool :=
  if x = [] then (z26,false) else match l.find? (fun y => y.f0.toList == x) with
    | some y => (y,true)
    | none => (z26,false)
theorem idx_from (p : S26 → Bool) : ∀ (l : List S26) (i : Nat),(l.find? p = none ∧ Lib.idxByFrom (fun _ y => p y) default l i = -1) ∨ ∃ k,k < l.length ∧ l.find? p = some l[k]! ∧ Lib.idxByFrom (fun _ y => p y) default l i = ((i + k : Nat) : Int)
  | [],i => .inl ⟨rfl,rfl⟩
  | y :: r,i => by
    unfold Lib.idxByFrom
    by_cases h : p y = true
    · exact .inr ⟨0,by simp,by simp [List.find?,h],by simp [h]⟩
    · rcases idx_from p r (i + 1) with ⟨h1,h2⟩ | ⟨k,hk,h1,h2⟩
      · exact .inl ⟨by simp [List.find?,h];simpa using h1,by simp [h,h2]⟩
      · refine .inr ⟨k + 1,by simp;omega,?_,?_⟩
        · simp only [List.find?,h]
          rw [h1]
          simp
        · rw [if_neg h,h2]
          congr 1
          omega
set_option maxHeartbeats 4000000 in
set_option maxRecDepth 100000 in
theorem find_walk (A0 : Option Addr) (c0 : Nat) (l : List S26) (s : ByteArray) (w : World) (hLd : Laid w) (hC : Kd.C k26 w A0 l.length l) (hs : s.size ≤ 65536) :
    Calls Tryz.prog 10 #[.slice A0 l.length c0,.string s] w fun e w' => e = .returned (.tuple #[.agg #[.string (fnd l (lbl s.data.toList)).1.f0,.string (fnd l (lbl s.data.toList)).1.f1,.string (fnd l (lbl s.data.toList)).1.f2],.bool (fnd l (lbl s.data.toList)).2]) ∧ Below w.heap.size w w' := by
  have HLab := Lib.hid (fun W hW => Label_walk s W hW hs)
  obtain ⟨x,hx⟩ : ∃ x,lbl s.data.toList = x := ⟨_,rfl⟩
  rw [hx] at HLab ⊢
  have HLd := Lib.hid hLd
  have HC := Lib.hid hC
  have hmax := Kd.C_max hC
  have hidx := idx_from (fun y => y.f0.toList == x) l 0
  have hfn : fnd l x = if x = [] then (z26,false) else match l.find? (fun y => y.f0.toList == x) with
    | some y => (y,true)
    | none => (z26,false) := rfl
  have HI := Lib.hid (fun b W (hb : b < W.heap.size) (hc : W.cell? ⟨b,0,none⟩ = some (.string (B x))) hCW => idx_walk A0 c0 l (fun y => y.f0.toList == (B x).toList) 21 #[.pointer (some ⟨b,0,none⟩)] (enters_of Tryz.func21 (by kernel_rfl) rfl) W (find_pred (B x) b W hb hc) hCW)
  rw [B_toList] at HI
  have hbt : (B x).toList = x := B_toList x
  obtain ⟨X,hX⟩ : ∃ X,B x = X := ⟨_,rfl⟩
  rw [hX] at HLab HI hbt
  unfold Lib.idxBy at HI
  clear hX hx hLd hC hs
  rcases hidx with ⟨hnone,hid⟩ | ⟨k,hk,hsome,hid⟩
  · rw [hid] at HI
    have HF := Lib.hid (show fnd l x = (z26,false) by rw [hfn,hnone];split <;> rfl)
    rw [HF.out]
    clear hid hnone hfn hbt HF
    go_enter Tryz.func10,Tryz.ntmps10
    go_wp2_with fail
    have HB0 := Lib.hid ((Below.refl w.heap.size w).alloc (Nat.le_refl _) (.cells #[.string ⟨#[]⟩,.string ⟨#[]⟩,.string ⟨#[]⟩] 26 (0,0)))
    have hR0 := heap_alloc_new w (.cells #[.string ⟨#[]⟩,.string ⟨#[]⟩,.string ⟨#[]⟩] 26 (0,0))
    have hRl : w.heap.size < (w.alloc (.cells #[.string ⟨#[]⟩,.string ⟨#[]⟩,.string ⟨#[]⟩] 26 (0,0))).heap.size := by rw [World.size_alloc];omega
    refine (HLab.out _ (HLd.out.go HB0.out)).mono ?_
    rintro e w1 ⟨rfl,hb1⟩
    have hR1 := (hb1.block _ hRl).trans hR0
    have HB1 := Lib.hid (HB0.out.trans (hb1.mono (Nat.le_of_lt hRl)))
    have hl1 : w.heap.size < w1.heap.size := Nat.lt_of_lt_of_le hRl hb1.size
    clear hb1 HB0 hR0 hRl HLab HLd
    go_wp2_with fail
    obtain ⟨w2,hw2⟩ : ∃ w2,w2 = w1.alloc (.cells #[.string X] 9 (0,0)) := ⟨_,rfl⟩
    have hcell2 : w2.cell? ⟨w1.heap.size,0,none⟩ = some (.string X) := by rw [hw2];exact cell_of_one (heap_alloc_new w1 _)
    have hl2 : w1.heap.size < w2.heap.size := by rw [hw2,World.size_alloc];omega
    have HB2 := Lib.hid (show Below w.heap.size w w2 by rw [hw2];exact HB1.out.alloc (Nat.le_of_lt hl1) _)
    have hR2 : w2.heap[w.heap.size]? = some (.cells #[.string ⟨#[]⟩,.string ⟨#[]⟩,.string ⟨#[]⟩] 26 (0,0)) := by rw [hw2];exact (Below.heap_alloc w1 _ _ hl1).trans hR1
    rw [show (w1.alloc (Obj.cells #[Value.string X] 9)) = w2 from hw2.symm]
    clear hw2 hR1 HB1
    obtain ⟨bx,hbx⟩ : ∃ b,w1.heap.size = b := ⟨_,rfl⟩
    rw [hbx] at hcell2 hl1 hl2 ⊢
    clear hbx
    with_reducible refine (HI.out bx w2 hl2 hcell2 (Kd.C_below HC.out HB2.out)).mono ?_
    rintro e w3 ⟨rfl,hb3⟩
    have hcell3 := (hb3.cell (p := ⟨bx,0,none⟩) hl2).trans hcell2
    have hR3 := (hb3.block w.heap.size (Nat.lt_trans hl1 hl2)).trans hR2
    have HC3 := Lib.hid (Kd.C_below (Kd.C_below HC.out HB2.out) hb3)
    have HB3 := Lib.hid (HB2.out.trans (hb3.mono HB2.out.size))
    clear hb3 hcell2 hR2 HB2 HI HC hl2
    clear HC3 hcell3
    obtain ⟨k0,k1,k2,f0,f1,f2⟩ := row3_facts hR3
    go_wp2
    refine bodyPost_ret (results_ct rfl _ _ w.heap.size 26 #[.string ⟨#[]⟩,.string ⟨#[]⟩,.string ⟨#[]⟩] (0,0) _ rfl (blk_put (blk_put (blk_put hR3 0 _ rfl) 1 _ rfl) 2 _ rfl) Tryz.underlying26 rfl (by kernel_rfl)) rfl ?_
    exact ⟨rfl,((HB3.out.setCell (p := ⟨w.heap.size,0,none⟩) (Nat.le_refl _) _).setCell (p := ⟨w.heap.size,1,none⟩) (Nat.le_refl _) _).setCell (p := ⟨w.heap.size,2,none⟩) (Nat.le_refl _) _⟩
  · rw [Nat.zero_add] at hid
    rw [hid] at HI
    clear hid
    by_cases hx0 : x = []
    · have HF := Lib.hid (show fnd l x = (z26,false) by rw [hfn,if_pos hx0])
      rw [HF.out]
      have hXe : X.toList.isEmpty = true := by rw [hbt,hx0];rfl
      have q : decide ((k : Int) < 0) = false := decide_eq_false (by omega)
      clear hsome hfn hbt HF
      go_enter Tryz.func10,Tryz.ntmps10
      go_wp2_with fail
      have HB0 := Lib.hid ((Below.refl w.heap.size w).alloc (Nat.le_refl _) (.cells #[.string ⟨#[]⟩,.string ⟨#[]⟩,.string ⟨#[]⟩] 26 (0,0)))
      have hR0 := heap_alloc_new w (.cells #[.string ⟨#[]⟩,.string ⟨#[]⟩,.string ⟨#[]⟩] 26 (0,0))
      have hRl : w.heap.size < (w.alloc (.cells #[.string ⟨#[]⟩,.string ⟨#[]⟩,.string ⟨#[]⟩] 26 (0,0))).heap.size := by rw [World.size_alloc];omega
      refine (HLab.out _ (HLd.out.go HB0.out)).mono ?_
      rintro e w1 ⟨rfl,hb1⟩
      have hR1 := (hb1.block _ hRl).trans hR0
      have HB1 := Lib.hid (HB0.out.trans (hb1.mono (Nat.le_of_lt hRl)))
      have hl1 : w.heap.size < w1.heap.size := Nat.lt_of_lt_of_le hRl hb1.size
      clear hb1 HB0 hR0 hRl HLab HLd
      go_wp2_with fail
      obtain ⟨w2,hw2⟩ : ∃ w2,w2 = w1.alloc (.cells #[.string X] 9 (0,0)) := ⟨_,rfl⟩
      have hcell2 : w2.cell? ⟨w1.heap.size,0,none⟩ = some (.string X) := by rw [hw2];exact cell_of_one (heap_alloc_new w1 _)
      have hl2 : w1.heap.size < w2.heap.size := by rw [hw2,World.size_alloc];omega
      have HB2 := Lib.hid (show Below w.heap.size w w2 by rw [hw2];exact HB1.out.alloc (Nat.le_of_lt hl1) _)
      have hR2 : w2.heap[w.heap.size]? = some (.cells #[.string ⟨#[]⟩,.string ⟨#[]⟩,.string ⟨#[]⟩] 26 (0,0)) := by rw [hw2];exact (Below.heap_alloc w1 _ _ hl1).trans hR1
      rw [show (w1.alloc (Obj.cells #[Value.string X] 9)) = w2 from hw2.symm]
      clear hw2 hR1 HB1
      obtain ⟨bx,hbx⟩ : ∃ b,w1.heap.size = b := ⟨_,rfl⟩
      rw [hbx] at hcell2 hl1 hl2 ⊢
      clear hbx
      with_reducible refine (HI.out bx w2 hl2 hcell2 (Kd.C_below HC.out HB2.out)).mono ?_
      rintro e w3 ⟨rfl,hb3⟩
      have hcell3 := (hb3.cell (p := ⟨bx,0,none⟩) hl2).trans hcell2
      have hR3 := (hb3.block w.heap.size (Nat.lt_trans hl1 hl2)).trans hR2
      have HC3 := Lib.hid (Kd.C_below (Kd.C_below HC.out HB2.out) hb3)
      have HB3 := Lib.hid (HB2.out.trans (hb3.mono HB2.out.size))
      clear hb3 hcell2 hR2 HB2 HI HC hl2
      clear HC3
      obtain ⟨k0,k1,k2,f0,f1,f2⟩ := row3_facts hR3
      go_wp2
      refine bodyPost_ret (results_ct rfl _ _ w.heap.size 26 #[.string ⟨#[]⟩,.string ⟨#[]⟩,.string ⟨#[]⟩] (0,0) _ rfl (blk_put (blk_put (blk_put hR3 0 _ rfl) 1 _ rfl) 2 _ rfl) Tryz.underlying26 rfl (by kernel_rfl)) rfl ?_
      exact ⟨rfl,((HB3.out.setCell (p := ⟨w.heap.size,0,none⟩) (Nat.le_refl _) _).setCell (p := ⟨w.heap.size,1,none⟩) (Nat.le_refl _) _).setCell (p := ⟨w.heap.size,2,none⟩) (Nat.le_refl _) _⟩
    · have HF := Lib.hid (show fnd l x = (l[k]!,true) by rw [hfn,if_neg hx0,hsome])
      have hXe : X.toList.isEmpty = false := by rw [hbt];cases x with | nil => exact absurd rfl hx0 | cons _ _ => rfl
      have q : decide ((k : Int) < 0) = false := decide_eq_false (by omega)
      clear hsome hfn hbt
      go_enter Tryz.func10,Tryz.ntmps10
      go_wp2_with fail
      have HB0 := Lib.hid ((Below.refl w.heap.size w).alloc (Nat.le_refl _) (.cells #[.string ⟨#[]⟩,.string ⟨#[]⟩,.string ⟨#[]⟩] 26 (0,0)))
      have hR0 := heap_alloc_new w (.cells #[.string ⟨#[]⟩,.string ⟨#[]⟩,.string ⟨#[]⟩] 26 (0,0))
      have hRl : w.heap.size < (w.alloc (.cells #[.string ⟨#[]⟩,.string ⟨#[]⟩,.string ⟨#[]⟩] 26 (0,0))).heap.size := by rw [World.size_alloc];omega
      refine (HLab.out _ (HLd.out.go HB0.out)).mono ?_
      rintro e w1 ⟨rfl,hb1⟩
      have hR1 := (hb1.block _ hRl).trans hR0
      have HB1 := Lib.hid (HB0.out.trans (hb1.mono (Nat.le_of_lt hRl)))
      have hl1 : w.heap.size < w1.heap.size := Nat.lt_of_lt_of_le hRl hb1.size
      clear hb1 HB0 hR0 hRl HLab HLd
      go_wp2_with fail
      obtain ⟨w2,hw2⟩ : ∃ w2,w2 = w1.alloc (.cells #[.string X] 9 (0,0)) := ⟨_,rfl⟩
      have hcell2 : w2.cell? ⟨w1.heap.size,0,none⟩ = some (.string X) := by rw [hw2];exact cell_of_one (heap_alloc_new w1 _)
      have hl2 : w1.heap.size < w2.heap.size := by rw [hw2,World.size_alloc];omega
      have HB2 := Lib.hid (show Below w.heap.size w w2 by rw [hw2];exact HB1.out.alloc (Nat.le_of_lt hl1) _)
      have hR2 : w2.heap[w.heap.size]? = some (.cells #[.string ⟨#[]⟩,.string ⟨#[]⟩,.string ⟨#[]⟩] 26 (0,0)) := by rw [hw2];exact (Below.heap_alloc w1 _ _ hl1).trans hR1
      rw [show (w1.alloc (Obj.cells #[Value.string X] 9)) = w2 from hw2.symm]
      clear hw2 hR1 HB1
      obtain ⟨bx,hbx⟩ : ∃ b,w1.heap.size = b := ⟨_,rfl⟩
      rw [hbx] at hcell2 hl1 hl2 ⊢
      clear hbx
      with_reducible refine (HI.out bx w2 hl2 hcell2 (Kd.C_below HC.out HB2.out)).mono ?_
      rintro e w3 ⟨rfl,hb3⟩
      have hcell3 := (hb3.cell (p := ⟨bx,0,none⟩) hl2).trans hcell2
      have hR3 := (hb3.block w.heap.size (Nat.lt_trans hl1 hl2)).trans hR2
      have HC3 := Lib.hid (Kd.C_below (Kd.C_below HC.out HB2.out) hb3)
      have HB3 := Lib.hid (HB2.out.trans (hb3.mono HB2.out.size))
      clear hb3 hcell2 hR2 HB2 HI HC hl2
      obtain ⟨b,off,rfl,hbl,hcs⟩ := refs_lie HC3.out (by omega)
      have d0 : w3.cell? ⟨b,off + k * 3,none⟩ = some (.string (l[k]!).f0) := hcs k hk 0 _ rfl
      have d1 : w3.cell? ⟨b,off + k * 3 + 1,none⟩ = some (.string (l[k]!).f1) := hcs k hk 1 _ rfl
      have d2 : w3.cell? ⟨b,off + k * 3 + 2,none⟩ = some (.string (l[k]!).f2) := hcs k hk 2 _ rfl
      obtain ⟨y,hy⟩ : ∃ y,l[k]! = y := ⟨_,rfl⟩
      rw [hy] at HF d0 d1 d2
      clear hcs hy HC3
      obtain ⟨k0,k1,k2,f0,f1,f2⟩ := row3_facts hR3
      go_wp2
      rw [HF.out]
      refine bodyPost_ret (results_ct rfl _ _ w.heap.size 26 #[.string y.f0,.string y.f1,.string y.f2] (0,0) _ rfl (blk_put (blk_put (blk_put hR3 0 _ rfl) 1 _ rfl) 2 _ rfl) Tryz.underlying26 rfl (by kernel_rfl)) rfl ?_
      exact ⟨rfl,((HB3.out.setCell (p := ⟨w.heap.size,0,none⟩) (Nat.le_refl _) _).setCell (p := ⟨w.heap.size,1,none⟩) (Nat.le_refl _) _).setCell (p := ⟨w.heap.size,2,none⟩) (Nat.le_refl _) _⟩
def refs_Find.f (l0 : List S26) (a1 : ByteArray) : Option (ByteArray × ByteArray × ByteArray × Bool) := if a1.size ≤ 65536 then some ((fnd l0 (lbl a1.data.toList)).1.f0,(fnd l0 (lbl a1.data.toList)).1.f1,(fnd l0 (lbl a1.data.toList)).1.f2,(fnd l0 (lbl a1.data.toList)).2) else none
theorem refs_Find.calls (A0 : Option Addr) (c0 : Nat) (l0 : List S26) (a1 : ByteArray) (r1 r2 r3 : ByteArray) (r4 : Bool) (w : World) (hLd : Laid w) (hr0 : Kd.C k26 w A0 l0.length l0) (hc0 : l0.length ≤ c0) (h : refs_Find.f l0 a1 = some (r1,r2,r3,r4)) :
    Calls Tryz.prog 10 #[.slice A0 l0.length c0,.string a1] w fun e w' => e = .returned (.tuple #[.agg #[.string r1,.string r2,.string r3],.bool r4]) ∧ Below w.heap.size w w' := by
  unfold refs_Find.f at h
  split at h
  · rename_i hc
    have h2 := Option.some.inj h
    simp only [Prod.mk.injEq] at h2
    obtain ⟨rfl,rfl,rfl,rfl⟩ := h2
    exact find_walk A0 c0 l0 a1 w hLd hr0 hc
  · cases h
end Go.Proofs.YtekifcbokdidlaaGreatDoor.PA

namespace Go.Proofs.YtekifcbokdidlaaGreatDoor.PA
open Go.RowKit Go.Shelf Go.Proofs.YtekifcbokdidlaaGreatDoor.Pl Go.Proofs.YtekifcbokdidlaaGreatDoorW.PrintWords Go.Proofs.YtekifcbokdidlaaGreatDoorW.PrintLast Go.Proofs.YtekifcbokdidlaaGreatDoorW.PrintMore
set_option linter.unusedVariables false
attribute [local go_sem] Oper.semAt_some

theorem each_in (F : Fence) (n : Nat) (hF : F.fn 37) (hro : F.round = none) (s : ByteArray) (w : World) :
    CallsIn F n Tryz.prog 37 #[.string s] w fun e w' => e = .returned (.func (.func 61) #[] #[.pointer (some ⟨w.heap.size,0,none⟩)]) ∧ w' = w.alloc (.cells #[.string s] 9) := by
  refine callsIn_of_wp Tryz.func37 rfl hF ?_ hro
  simp only [Tryz.ntmps37,List.size_toArray,List.length_cons,List.length_nil,Nat.reduceAdd,Nat.reduceSub,Array.replicate_succ,Array.replicate_zero,List.push_toArray,List.append_toArray,List.nil_append,List.cons_append]
  gi_wp2
  go_ret
  exact ⟨rfl,rfl⟩
/-- A range over a function whose rounds are met within the function's own walk. -/
theorem range_seq {F : Fence} {n : Nat} {P : Program} {g : Operand} {ps : Array Tmp} {assign body : Code} {Q : Exit → Act → World → Prop} {a : Act} {w : World}
    (hro : F.round = none) (h1 : F.depth.isSome = true → 1 ≤ n) {gf : Nat} {lb : Array Value} (hg : a.eval g = .func (.func gf) #[] lb) (hFg : F.fn gf) (eg : ∀ args w,(callFunc gf args).run P w = .ok (.enter gf args) w)
    (Fin : World → Prop)
    (hiter : ∀ (fn : FuncId) (rc : Loop),F.fn fn → rc.state = .ready → rc.pending = none → rc.fn = fn → rc.tmps = a.tmps → rc.params = ps → rc.assign = assign → rc.body = body →
      CallsIn F (n - 1) P gf (#[.func (.yield (w.heap.size + 1)) #[] #[]] ++ lb) ((w.alloc (.deferred (some []))).alloc (.loop rc)) fun e W2 => (∃ v,e = .returned v) ∧ W2.heap[w.heap.size + 1]? = some (.loop rc) ∧ Fin W2)
    (hdone : ∀ (rc : Loop) (W2 : World),Fin W2 → W2.heap[w.heap.size + 1]? = some (.loop rc) → Q .normal { a with defers := { target := .collected w.heap.size,args := #[] } :: a.defers } (W2.putObj (w.heap.size + 1) (.loop { rc with state := .exhausted }))) :
    (Code.rangeFunc g ps assign body).wpIn F n P Q a w := by
  refine wpIn_rangeFunc (fun fn hfn => ?_)
  rw [hro]
  obtain ⟨rc,hrc⟩ : ∃ rc : Loop,rc = { state := .ready,pending := none,fn := fn,tmps := a.tmps,params := ps,assign := assign,body := body,defers := w.heap.size } := ⟨_,rfl⟩
  obtain ⟨W1,hW1⟩ : ∃ W1,W1 = (w.alloc (.deferred (some []))).alloc (.loop rc) := ⟨_,rfl⟩
  refine ⟨w.heap.size + 1,[{ target := .collected w.heap.size,args := #[] }],W1,{ target := .fn (.func gf) lb,args := #[.func (.yield (w.heap.size + 1)) #[] #[]] },W1,gf,#[.func (.yield (w.heap.size + 1)) #[] #[]] ++ lb,W1,?_,?_,?_,?_,h1,CallsIn.mono (by rw [hW1];exact hiter fn rc hfn (by rw [hrc]) (by rw [hrc]) (by rw [hrc]) (by rw [hrc]) (by rw [hrc]) (by rw [hrc]) (by rw [hrc])) ?_⟩
  · rw [hW1,hrc]
    exact run_enterLoop_outer _ _ _ _ _
  · simp only [resolve,hg]
    simp [go_sem]
  · intro f' hf'
    simp [Target.leads] at hf'
    subst hf'
    exact hFg
  · simp [invoke,go_sem,eg]
  · rintro e W2 ⟨⟨v,rfl⟩,hl,hf⟩
    exact ⟨none,_,(run_endLoop hl (by rw [hrc];simp)).trans (by rw [hrc]),hdone _ W2 hf hl⟩
/-- What stands in memory between two rounds. -/
structure ASt (w : World) (Bo Bs0 D l : Nat) (rc : Loop) (acc : List S26) (s : ByteArray) (W : World) : Prop where
  laid : Laid W
  box : ∃ v,Boxed W Bo 22 v ∧ W.ownsRow w.heap.size 26 3 v acc.length (acc.flatMap encR3)
  boxS : Boxed W Bs0 9 (.string s)
  dfr : W.heap[D]? = some (.deferred (some []))
  rcd : W.heap[l]? = some (.loop rc)
  bel : Below w.heap.size w W
theorem ASt.go {w : World} {Bo Bs0 D l : Nat} {rc : Loop} {acc : List S26} {s : ByteArray} {W X : World} (h : ASt w Bo Bs0 D l rc acc s W) (hb : Below W.heap.size W X) : ASt w Bo Bs0 D l rc acc s X where
  laid := h.laid.go hb
  box := by
    obtain ⟨v,h1,h2⟩ := h.box
    exact ⟨v,(hb.block _ h1.lt).trans h1,pw_own_below h2 hb⟩
  boxS := (hb.block _ h.boxS.lt).trans h.boxS
  dfr := (hb.block _ (Array.getElem?_eq_some_iff.1 h.dfr).1).trans h.dfr
  rcd := (hb.block _ (Array.getElem?_eq_some_iff.1 h.rcd).1).trans h.rcd
  bel := h.bel.trans (hb.mono h.bel.size)
theorem ASt.set {w : World} {Bo Bs0 D l B : Nat} {rc : Loop} {acc : List S26} {s x y : ByteArray} {W : World} (hLd : Laid w) (h : ASt w Bo Bs0 D l rc acc s W) (hB : Boxed W B 9 (.string x)) (h1 : Bo ≠ B) (h2 : Bs0 ≠ B) (h3 : w.heap.size ≤ B) :
    ASt w Bo Bs0 D l rc acc s (W.setCell ⟨B,0,none⟩ (.string y)) where
  laid := hLd.go (h.bel.trans ((Below.refl _ W).setCell (p := ⟨B,0,none⟩) h3 _))
  box := by
    obtain ⟨v,hv,hr⟩ := h.box
    exact ⟨v,hv.kept (grownBy_setCell' _ _ _) (by simpa using h1),hr.kept (grownBy_setCell' W B (.string y)) (.inr (hB.not_row (by decide) hr).symm)⟩
  boxS := h.boxS.kept (grownBy_setCell' _ _ _) (by simpa using h2)
  dfr := (KeepsOthers.setCell W _ _).same _ _ h.dfr rfl
  rcd := (KeepsOthers.setCell W _ _).same _ _ h.rcd rfl
  bel := h.bel.trans ((Below.refl _ W).setCell (p := ⟨B,0,none⟩) h3 _)
/-- The definitions a text begins with, and what is left; by at most so many steps. -/
def refs_All.l (k : Nat) : Nat → ByteArray → List S26 → Option (List S26 × ByteArray)
  | 0,_,_ => none
  | f + 1,s,acc => (refs_Take.f k s).bind fun t => if 0 ≤ t.2.2.2 ∧ t.2.2.2 ≤ (s.size : Int) then (if t.2.2.2 = 0 then some (acc,s) else refs_All.l k f (s.extract t.2.2.2.toNat s.size) (acc ++ [⟨t.1,t.2.1,t.2.2.1⟩])) else none
theorem cell_three_new (W : World) (x y z : Value) (t : TypeId) : ∀ j u,[x,y,z][j]? = some u → (W.alloc (.cells #[x,y,z] t)).cell? ((⟨W.heap.size,0,none⟩ : Addr).add j) = some u := by
  intro j u hj
  match j,hj with
  | 0,hj => simp at hj;subst hj;simp [Addr.add]
  | 1,hj => simp at hj;subst hj;simp [Addr.add]
  | 2,hj => simp at hj;subst hj;simp [Addr.add]
  | (j + 3),hj => simp at hj
theorem refs_R {W : World} {base : Nat} {v : Value} {acc : List S26} (h : W.ownsRow base 26 3 v acc.length (acc.flatMap encR3)) : Kd.R k26 26 W base (fun _ => True) v acc := by
  refine ⟨fun _ _ => trivial,_,h,?_⟩
  have key : ∀ (l pre : List S26) (cs : List Value),Reps (k26.M W base (fun k => True ∧ some k ≠ v.ownBlock)) 3 pre cs → Reps (k26.M W base (fun k => True ∧ some k ≠ v.ownBlock)) 3 (pre ++ l) (cs ++ l.flatMap encR3) := by
    intro l
    induction l with
    | nil => intro pre cs h;simpa using h
    | cons x l ih =>
      intro pre cs h
      have := ih (pre ++ [x]) (cs ++ encR3 x) (h.snoc (k26_mkM _ _ _ x) rfl)
      simpa [List.append_assoc] using this
  exact key acc [] [] (Reps.none _ _)
theorem infoR : (Tryz.prog.info? 26).map (fun i => (i.zero,i.size,i.bytes)) = some (some (.agg #[.string ⟨#[]⟩,.string ⟨#[]⟩,.string ⟨#[]⟩]),3,48) := by kernel_rfl
set_option maxRecDepth 100000 in
set_option maxHeartbeats 2000000 in
theorem all_walk (k : Nat) (s0 : ByteArray) (R : List S26 × ByteArray) (w : World) (hLd : Laid w) (hs : s0.size ≤ 1048576) (hR : ∃ f,refs_All.l k f s0 [] = some R) :
    Calls Tryz.prog 17 #[.string s0] w fun e w' => ∃ v0_,e = .returned (.tuple #[v0_,.string R.2]) ∧ Kd.R k26 26 w' w.heap.size (fun _ => True) v0_ R.1 ∧ Below w.heap.size w w' := by
  refine (callsIn_wide (n := 5)).1 ?_
  refine callsIn_of_wp_marks Tryz.func17 rfl trivial ?_ rfl
  simp only [Tryz.ntmps17,List.size_toArray,List.length_cons,List.length_nil,Nat.reduceAdd,Nat.reduceSub,Array.replicate_succ,Array.replicate_zero,List.push_toArray,List.append_toArray,List.nil_append,List.cons_append]
  gi_wp2
  refine ⟨trivial,?_⟩
  refine (each_in Fence.wide 4 trivial rfl s0 _).mono ?_
  rintro e w' ⟨rfl,rfl⟩
  gi_wp2
  have hB1 : Below w.heap.size w (((w.alloc (.cells #[.string s0] 9)).alloc (.cells #[.slice none 0 0] 22)).alloc (.cells #[.string s0] 9)) := (((Below.refl w.heap.size w).alloc (Nat.le_refl _) _).alloc (by simp) _).alloc (by simp;omega) _
  have b1 := Boxed.new w 9 (.string s0)
  have b2 := Boxed.new (w.alloc (.cells #[.string s0] 9)) 22 (.slice none 0 0)
  have b3 := Boxed.new ((w.alloc (.cells #[.string s0] 9)).alloc (.cells #[.slice none 0 0] 22)) 9 (.string s0)
  replace b1 := (b1.alloc (.cells #[.slice none 0 0] 22)).alloc (.cells #[.string s0] 9)
  replace b2 := b2.alloc (.cells #[.string s0] 9)
  rw [World.size_alloc] at b2
  rw [World.size_alloc,World.size_alloc] at b3
  obtain ⟨W,hW⟩ : ∃ W,W = ((w.alloc (.cells #[.string s0] 9)).alloc (.cells #[.slice none 0 0] 22)).alloc (.cells #[.string s0] 9) := ⟨_,rfl⟩
  have hWs : W.heap.size = w.heap.size + 3 := by rw [hW];simp
  rw [← hW] at hB1 b1 b2 b3
  rw [show ((w.alloc (Obj.cells #[Value.string s0] 9)).alloc (Obj.cells #[Value.slice none 0 0] 22)).alloc (Obj.cells #[Value.string s0] 9) = W from hW.symm]
  clear hW
  refine range_seq rfl (by intro h;cases h) (gf := 61) (lb := #[.pointer (some ⟨w.heap.size + 1 + 1,0,none⟩)]) rfl trivial (enters_of Tryz.func61 (by kernel_rfl) rfl)
    (fun W2 => ∃ rc,ASt w (w.heap.size + 1) w.heap.size W.heap.size (W.heap.size + 1) rc R.1 R.2 W2) ?iter ?done
  case iter =>
    intro fn rc hfn hst hpe hfe htm hps has hbo
    have hb2 : Below W.heap.size W ((W.alloc (.deferred (some []))).alloc (.loop rc)) := ((Below.refl _ W).alloc (Nat.le_refl _) _).alloc (by simp) _
    have hb9 := hb2
    have hA0 : ASt w (w.heap.size + 1) w.heap.size W.heap.size (W.heap.size + 1) rc [] s0 ((W.alloc (.deferred (some []))).alloc (.loop rc)) := by
      refine ⟨(hLd.go hB1).go hb2,⟨_,(hb2.block _ b2.lt).trans b2,World.ownsRow_nil _ _ _ _⟩,(hb2.block _ b1.lt).trans b1,?_,?_,hB1.trans (hb2.mono (by omega))⟩
      · exact (Below.heap_alloc _ _ _ (by simp)).trans (World.alloc_heap_new W _)
      · have := World.alloc_heap_new (W.alloc (.deferred (some []))) (.loop rc)
        rwa [World.size_alloc] at this
    have hround : ∀ (acc : List S26) (r : S26) (s rest : ByteArray) (X : World),acc.length ≤ 1048576 → ASt w (w.heap.size + 1) w.heap.size W.heap.size (W.heap.size + 1) rc acc s X → Boxed X (w.heap.size + 1 + 1) 9 (.string rest) →
        YieldAt Fence.wide (5 - 1 - 1) Tryz.prog (W.heap.size + 1) #[.agg #[.string r.f0,.string r.f1,.string r.f2],.string rest] X fun e Y => e = .returned (.bool true) ∧ ASt w (w.heap.size + 1) w.heap.size W.heap.size (W.heap.size + 1) rc (acc ++ [r]) rest Y ∧ Boxed Y (w.heap.size + 1 + 1) 9 (.string rest) := by
      intro acc r s rest X hacc hA hBs
      have hy := run_yield (P := Tryz.prog) (args := #[.agg #[.string r.f0,.string r.f1,.string r.f2],.string rest]) hA.rcd (by rw [hps];rfl)
      rw [htm,hps,has,hbo,hfe] at hy
      refine ⟨fn,_,_,_,hy,roundIn_of_wpIn hfn ?_⟩
      clear hy
      gi_wp2
      have hb1 : Below X.heap.size X (X.alloc (.cells #[.string r.f0,.string r.f1,.string r.f2] 26 (0,0))) := below_alloc (Below.refl _ _) _
      have hA1 := hA.go hb1
      have hBs1 : Boxed (X.alloc (.cells #[.string r.f0,.string r.f1,.string r.f2] 26 (0,0))) (w.heap.size + 1 + 1) 9 (.string rest) := (hb1.block _ hBs.lt).trans hBs
      have hr1 := heap_alloc_new X (.cells #[.string r.f0,.string r.f1,.string r.f2] 26 (0,0))
      have hXl : X.heap.size < (X.alloc (.cells #[.string r.f0,.string r.f1,.string r.f2] 26 (0,0))).heap.size := by simp
      have hXb := hA.bel.size
      have hXr := (Array.getElem?_eq_some_iff.1 hA.rcd).1
      obtain ⟨X1,hX1⟩ : ∃ X1,X1 = X.alloc (.cells #[.string r.f0,.string r.f1,.string r.f2] 26 (0,0)) := ⟨_,rfl⟩
      rw [← hX1] at hA1 hBs1 hr1 hXl
      rw [show (X.alloc (Obj.cells #[Value.string r.f0,Value.string r.f1,Value.string r.f2] 26)) = X1 from hX1.symm]
      clear hX1 hb1 hA hBs
      obtain ⟨Xs,hXs⟩ : ∃ Xs,X.heap.size = Xs := ⟨_,rfl⟩
      rw [hXs] at hr1 hXl hXb hXr ⊢
      clear hXs
      rw [hWs] at hA1 hXr
      refine ⟨_,run_beginRound hA1.rcd hst,?_⟩
      obtain ⟨v,hv1,hrow1⟩ := hA1.box
      have hrow2 := ownsRow_putObj hrow1 (.loop { rc with state := .busy }) hA1.rcd rfl
      have hoth : ∀ j,j ≠ w.heap.size + 3 + 1 → (X1.putObj (w.heap.size + 3 + 1) (.loop { rc with state := .busy })).heap[j]? = X1.heap[j]? := fun j hj => World.putObj_heap_other hj
      have hv2 : Boxed (X1.putObj (w.heap.size + 3 + 1) (.loop { rc with state := .busy })) (w.heap.size + 1) 22 v := (hoth _ (by omega)).trans hv1
      have hS2 : Boxed (X1.putObj (w.heap.size + 3 + 1) (.loop { rc with state := .busy })) w.heap.size 9 (.string s) := (hoth _ (by omega)).trans hA1.boxS
      have hI2 : Boxed (X1.putObj (w.heap.size + 3 + 1) (.loop { rc with state := .busy })) (w.heap.size + 1 + 1) 9 (.string rest) := (hoth _ (by omega)).trans hBs1
      have hr2 := (hoth Xs (by omega)).trans hr1
      have hd2 := (hoth (w.heap.size + 3) (by omega)).trans hA1.dfr
      have hl2 : (X1.putObj (w.heap.size + 3 + 1) (.loop { rc with state := .busy })).heap[w.heap.size + 3 + 1]? = some (.loop { rc with state := .busy }) := World.putObj_heap_same (by omega)
      have hB2 : Below w.heap.size w (X1.putObj (w.heap.size + 3 + 1) (.loop { rc with state := .busy })) := hA1.bel.trans (belowK_b (w := w) (Nat.le_refl _) X1 _ _ _ (by omega) hA1.rcd rfl rfl)
      have hL2 := hLd.go hB2
      have hz2 : Xs < (X1.putObj (w.heap.size + 3 + 1) (.loop { rc with state := .busy })).heap.size := by rw [World.putObj_size];omega
      obtain ⟨X2,hX2⟩ : ∃ X2,X2 = X1.putObj (w.heap.size + 3 + 1) (.loop { rc with state := .busy }) := ⟨_,rfl⟩
      rw [← hX2] at hrow2 hv2 hS2 hI2 hr2 hd2 hl2 hB2 hL2 hz2 ⊢
      clear hX2 hoth hv1 hrow1 hA1 hBs1 hr1
      obtain ⟨i0,hi,hi0,hi1,hi2⟩ := info_parts infoR
      obtain ⟨p0,p1,p2,g0,g1,g2⟩ := row3_facts hr2
      have hvc := hv2.cell
      have hsc := hS2.cell
      have hsf := hS2.frozen
      have hb2s := hB2.size
      gi_wp2_with (gi_at_builtin;refine wpListIn_append_own _ rfl _ _ 22 rfl w.heap.size 26 i0 (.agg #[.string ⟨#[]⟩,.string ⟨#[]⟩,.string ⟨#[]⟩]) 3 48 Tryz.underlying22 hi hi0 hi1 hi2 rfl (by decide) _ _ _ rfl (hrow2.alloc _) ⟨X2.heap.size,0,none⟩ 1 1 [.string r.f0,.string r.f1,.string r.f2] rfl rfl (cell_three_new _ _ _ _ _) (by simp [Value.oneCell']) (by simp only [maxLen];omega) (by omega) (by simp;omega) ?_;intro v' w1 hown' hgrow _;obtain ⟨g',cap',rfl⟩ := ownsRow_succ hown';obtain ⟨hv3,hv4,hr4,hk4,hb4⟩ := hv2.appended (by decide) hrow2 hB2.size (by omega) hown' hgrow;have hS3 := (hS2.alloc _).kept hgrow (hS2.not_row (by decide) hrow2);have hc3 := hv3.cell;have hf3 := hv3.frozen;have hc4 := hS3.cell;have hf4 := hS3.frozen)
      have hI3 := (hI2.alloc _).kept hgrow (hI2.not_row (by decide) hrow2)
      have hS4 : Boxed (w1.setCell ⟨w.heap.size + 1,0,none⟩ (.slice (some ⟨g',0,none⟩) (acc.length + 1) cap')) w.heap.size 9 (.string s) := hS3.kept (grownBy_setCell' _ _ _) (by simp)
      have hI4 : Boxed (w1.setCell ⟨w.heap.size + 1,0,none⟩ (.slice (some ⟨g',0,none⟩) (acc.length + 1) cap')) (w.heap.size + 1 + 1) 9 (.string rest) := hI3.kept (grownBy_setCell' _ _ _) (by simp)
      obtain ⟨w2,hw2⟩ : ∃ w2,w1.setCell ⟨w.heap.size + 1,0,none⟩ (.slice (some ⟨g',0,none⟩) (acc.length + 1) cap') = w2 := ⟨_,rfl⟩
      rw [hw2] at hv4 hr4 hk4 hb4 hS4 hI4 ⊢
      clear hw2 hown' hgrow hv3 hc3 hf3 hc4 hf4 hS3 hI3
      have hv5 : Boxed (w2.setCell ⟨w.heap.size,0,none⟩ (.string rest)) (w.heap.size + 1) 22 (.slice (some ⟨g',0,none⟩) (acc.length + 1) cap') := hv4.kept (grownBy_setCell' _ _ _) (by simp)
      have hI5 : Boxed (w2.setCell ⟨w.heap.size,0,none⟩ (.string rest)) (w.heap.size + 1 + 1) 9 (.string rest) := hI4.kept (grownBy_setCell' _ _ _) (by simp;omega)
      have hS5 := hS4.set (.string rest)
      have hr5 := hr4.kept (grownBy_setCell' w2 w.heap.size (.string rest)) (.inr (hS4.not_row (by decide) hr4).symm)
      have hk5 : KeepsOthers X2 (w2.setCell ⟨w.heap.size,0,none⟩ (.string rest)) := hk4.trans (KeepsOthers.setCell _ _ _)
      have hb5 : Below w.heap.size X2 (w2.setCell ⟨w.heap.size,0,none⟩ (.string rest)) := hb4.setCell (p := ⟨w.heap.size,0,none⟩) (Nat.le_refl _) _
      obtain ⟨w3,hw3⟩ : ∃ w3,w2.setCell ⟨w.heap.size,0,none⟩ (.string rest) = w3 := ⟨_,rfl⟩
      rw [hw3] at hv5 hI5 hS5 hr5 hk5 hb5 ⊢
      clear hw3
      have hl5 := hk5.same _ _ hl2 rfl
      have hd5 := hk5.same _ _ hd2 rfl
      have hlz := (Array.getElem?_eq_some_iff.1 hl5).1
      have hoth5 : ∀ j,j ≠ w.heap.size + 3 + 1 → (w3.putObj (w.heap.size + 3 + 1) (.loop rc)).heap[j]? = w3.heap[j]? := fun j hj => World.putObj_heap_other hj
      have hB6 : Below w.heap.size w3 (w3.putObj (w.heap.size + 3 + 1) (.loop rc)) := belowK_b (w := w) (Nat.le_refl _) w3 _ _ _ (by omega) hl5 rfl rfl
      have hB7 := (hB2.trans hb5).trans hB6
      have hrcd : (w3.putObj (w.heap.size + 3 + 1) (.loop { { rc with state := .busy } with state := if (none : Option Code).isNone then .ready else .done,pending := none })) = w3.putObj (w.heap.size + 3 + 1) (.loop rc) := by
        have : ({ { rc with state := .busy } with state := if (none : Option Code).isNone then .ready else .done,pending := none } : Loop) = rc := by
          cases rc
          simp at hst hpe ⊢
          exact ⟨hst.symm,hpe.symm⟩
        rw [this]
      refine ⟨_,_,(run_endRound none hl5).trans (by rw [hrcd];rfl),rfl,⟨hLd.go hB7,⟨_,(hoth5 _ (by omega)).trans hv5,?_⟩,(hoth5 _ (by omega)).trans hS5,(hoth5 _ (by omega)).trans hd5,World.putObj_heap_same hlz,hB7⟩,(hoth5 _ (by omega)).trans hI5⟩
      have hr6 := ownsRow_putObj hr5 (.loop rc) hl5 rfl
      rw [List.length_append,List.length_singleton,List.flatMap_append,List.flatMap_singleton]
      exact hr6
    refine callsIn_of_wp Tryz.func61 rfl trivial ?_ rfl
    simp only [Tryz.ntmps61,List.size_toArray,List.length_cons,List.length_nil,Nat.reduceAdd,Nat.reduceSub,Array.replicate_succ,Array.replicate_zero,List.push_toArray,List.append_toArray,List.nil_append,List.cons_append]
    gi_wp2
    gi_loopw [4] (fun v4 wr => ∃ (f : Nat) (acc : List S26) (s : ByteArray),refs_All.l k f s acc = some R ∧ ASt w (w.heap.size + 1) w.heap.size W.heap.size (W.heap.size + 1) rc acc s wr ∧ Boxed wr (w.heap.size + 1 + 1) 9 (.string s) ∧ acc.length + s.size ≤ s0.size)
      (fun v4 wr => match wr.cell? ⟨w.heap.size + 1 + 1,0,none⟩ with | some (.string s) => s.size | _ => 0)
    case atStart =>
      obtain ⟨f,hf⟩ := hR
      exact ⟨f,[],s0,hf,hA0,(hb9.block _ b3.lt).trans b3,by simp⟩
    case round =>
      obtain ⟨f,acc,s,hf,hA,hBs,hlen⟩ := hrel
      cases f with
      | zero => cases hf
      | succ f =>
      rw [refs_All.l] at hf
      obtain ⟨⟨t1,t2,t3,t4⟩,hT,hf⟩ := Option.bind_eq_some_iff.1 hf
      dsimp only at hf
      by_cases hn : 0 ≤ t4 ∧ t4 ≤ (s.size : Int)
      case neg => rw [if_neg hn] at hf;cases hf
      rw [if_pos hn] at hf
      have hc := hBs.cell
      have hc9 := Lib.hid hc
      gi_wp2
      refine ⟨trivial,(callsIn_wide.2 (refs_Take.calls k s t1 t2 t3 t4 _ hA.laid hT)).mono ?_⟩
      rintro e W1 ⟨rfl,hb⟩
      have hA1 := hA.go hb
      have hBs1 : Boxed W1 (w.heap.size + 1 + 1) 9 (.string s) := (hb.block _ hBs.lt).trans hBs
      clear hA hBs hb hc
      have hbA : Below W1.heap.size W1 (W1.alloc (.cells #[.string t1,.string t2,.string t3] 26)) := below_alloc (Below.refl _ _) _
      have hBs2 : Boxed (W1.alloc (.cells #[.string t1,.string t2,.string t3] 26)) (w.heap.size + 1 + 1) 9 (.string s) := (hbA.block _ hBs1.lt).trans hBs1
      have hlt3 := hA1.bel.size
      have hr2 := heap_alloc_new W1 (.cells #[.string t1,.string t2,.string t3] 26)
      have hBslt := hBs1.lt
      clear hbA
      have hc2 := hBs2.cell
      have hf2 := hBs2.frozen
      by_cases h0 : t4 = 0
      · rw [if_pos h0] at hf
        subst h0
        cases hf
        have hrest : s.extract (0 : Int).toNat s.size = s := by simp
        have hA3 := (hA1.set (y := s) hLd hBs1 (by omega) (by omega) (by omega)).go (below_alloc (Below.refl _ _) (.cells #[.string t1,.string t2,.string t3] 26))
        rw [hWs] at hA3
        clear hA1 hBs1
        gi_wp2
        refine ⟨(by intro f h;cases h),?_⟩
        gi_wp2
        refine bodyPost_ret (results_none rfl _ _ _) rfl ?_
        exact ⟨⟨_,rfl⟩,hA3.rcd,rc,hA3⟩
      · rw [if_neg h0] at hf
        have hA3 := (hA1.set (y := s.extract t4.toNat s.size) hLd hBs1 (by omega) (by omega) (by omega)).go (below_alloc (Below.refl _ _) (.cells #[.string t1,.string t2,.string t3] 26))
        have hBs3 := (hBs1.set (.string (s.extract t4.toNat s.size))).alloc (.cells #[.string t1,.string t2,.string t3] 26)
        have hr3 := heap_alloc_new (W1.setCell ⟨w.heap.size + 1 + 1,0,none⟩ (.string (s.extract t4.toNat s.size))) (.cells #[.string t1,.string t2,.string t3] 26)
        clear hA1 hBs1 hr2
        obtain ⟨fn',tmps',assign',body',hy,hRd⟩ := hround acc ⟨t1,t2,t3⟩ s (s.extract t4.toNat s.size) _ (by omega) hA3 hBs3
        rw [hWs] at hy hRd
        obtain ⟨p0,p1,p2,g0,g1,g2⟩ := row3_facts hr3
        have hc3 := hBs3.cell
        have hq : (t4 == 0) = false := beq_eq_false_iff_ne.2 h0
        gi_wp2
        refine hRd.mono ?_
        rintro e Z ⟨rfl,hA4,hBs4⟩
        gi_wp2
        go_roundw
        case rel => exact ⟨f,_,_,hf,by rw [hWs];exact hA4,hBs4,by have := hn.2;simp;omega⟩
        case measure => have := hn.2;simp [hBs4.cell,hc9.out];omega
  case done =>
    rintro rc W2 ⟨rc2,hA⟩ hl
    have hoth : ∀ j,j ≠ W.heap.size + 1 → (W2.putObj (W.heap.size + 1) (.loop { rc with state := .exhausted })).heap[j]? = W2.heap[j]? := fun j hj => World.putObj_heap_other hj
    obtain ⟨v,hv,hrow⟩ := hA.box
    have hrow2 := ownsRow_putObj hrow (.loop { rc with state := .exhausted }) hl rfl
    have hv2 : Boxed (W2.putObj (W.heap.size + 1) (.loop { rc with state := .exhausted })) (w.heap.size + 1) 22 v := (hoth _ (by omega)).trans hv
    have hS2 : Boxed (W2.putObj (W.heap.size + 1) (.loop { rc with state := .exhausted })) w.heap.size 9 (.string R.2) := (hoth _ (by omega)).trans hA.boxS
    have hd2 := (hoth W.heap.size (by omega)).trans hA.dfr
    have hB2 := hA.bel.trans (belowK_b (w := w) (Nat.le_refl _) W2 (W.heap.size + 1) (.loop rc) (.loop { rc with state := .exhausted }) (by omega) hl rfl rfl)
    obtain ⟨W3,hW3⟩ : ∃ W3,W3 = W2.putObj (W.heap.size + 1) (.loop { rc with state := .exhausted }) := ⟨_,rfl⟩
    rw [← hW3] at hrow2 hv2 hS2 hd2 hB2
    rw [show (W2.putObj (W.heap.size + 1) (.loop { rc with state := .exhausted })) = W3 from hW3.symm]
    clear hW3 hrow hv hoth
    have hvc := hv2.cell
    have hsc := hS2.cell
    gi_wp2
    gi_region
    gi_wp2
    refine ⟨by simp,.inl ⟨_,_,rfl,run_takeDeferred hd2,?_⟩⟩
    exact ⟨_,results_tmp2 rfl _ _ _,v,rfl,refs_R (ownsRow_putObj hrow2 _ hd2 rfl),(below_drew1 hB2).trans (belowK_b (w := w) (Nat.le_refl _) W3.drew W.heap.size _ (.deferred none) (by omega) hd2 rfl rfl)⟩
/-- refs.All in plain words. -/
def refs_All.f (k : Nat) (a0 : ByteArray) : Option (List S26 × ByteArray) := if a0.size ≤ 1048576 then refs_All.l k k a0 [] else none
theorem refs_All.mono_l : ∀ (f k : Nat) (s : ByteArray) (acc : List S26) (r),refs_All.l k f s acc = some r → refs_All.l (k + 1) (f + 1) s acc = some r
  | 0,_,_,_,_,h => by cases h
  | f + 1,k,s,acc,r,h => by
    rw [refs_All.l] at h
    obtain ⟨t,hT,h⟩ := Option.bind_eq_some_iff.1 h
    rw [refs_All.l,refs_Take.mono s k t hT]
    show (if _ then _ else _) = _
    by_cases hn : 0 ≤ t.2.2.2 ∧ t.2.2.2 ≤ (s.size : Int)
    · rw [if_pos hn] at h ⊢
      by_cases h0 : t.2.2.2 = 0
      · rw [if_pos h0] at h ⊢
        exact h
      · rw [if_neg h0] at h ⊢
        exact refs_All.mono_l f k _ _ _ h
    · rw [if_neg hn] at h
      cases h
theorem refs_All.mono : ∀ a0 k,LeO (refs_All.f k a0) (refs_All.f (k + 1) a0) := by
  intro a0 k r h
  unfold refs_All.f at h ⊢
  by_cases hs : a0.size ≤ 1048576
  · rw [if_pos hs] at h ⊢
    exact refs_All.mono_l k k _ _ _ h
  · rw [if_neg hs] at h
    cases h
theorem refs_All.calls (k : Nat) (a0 : ByteArray) (r1 : List S26) (r2 : ByteArray) (w : World) (hLd : Laid w) (h : refs_All.f k a0 = some (r1,r2)) :
    Calls Tryz.prog 17 #[.string a0] w fun e w' => ∃ v0_,e = .returned (.tuple #[v0_,.string r2]) ∧ Kd.R k26 26 w' w.heap.size (fun _ => True) v0_ r1 ∧ Below w.heap.size w w' := by
  unfold refs_All.f at h
  by_cases hs : a0.size ≤ 1048576
  · rw [if_pos hs] at h
    exact all_walk k a0 (r1,r2) w hLd hs ⟨k,h⟩
  · rw [if_neg hs] at h
    cases h
end Go.Proofs.YtekifcbokdidlaaGreatDoor.PA

namespace Go.Proofs.YtekifcbokdidlaaGreatDoor.Pure
open Go.RowKit Go.Proofs.YtekifcbokdidlaaGreatDoorW.PrintWords Go.Proofs.YtekifcbokdidlaaGreatDoorW.PrintMore Go.Proofs.YtekifcbokdidlaaGreatDoor.Pl Go.Proofs.YtekifcbokdidlaaGreatDoor.PA

/-- How much blanks and a line's end are. -/
def eol : List UInt8 → Option Nat
  | [] => some 0
  | x :: t => if x = 32 ∨ x = 9 then (eol t).map (· + 1) else if x = 10 then some 1 else none
/-- White with one LF at most. -/
def gok (s : List UInt8) : Bool := decide ((s.take (wht s)).count 10 ≤ 1)
/-- A title behind a gap, and its line's end. -/
def ttd (s : List UInt8) : Option (List UInt8 × Nat) :=
  if gok s = true ∧ wht s ≠ 0 then (if (ttl (s.drop (wht s))).2 = 0 then none else (eol (s.drop (wht s + (ttl (s.drop (wht s))).2))).map fun e => ((ttl (s.drop (wht s))).1,wht s + (ttl (s.drop (wht s))).2 + e)) else none
abbrev Tk := List UInt8 × List UInt8 × List UInt8 × Nat
/-- The end of a definition: behind the address. -/
def tkq (l d : List UInt8) (p : Nat) (q : List UInt8) : Tk :=
  match ttd q with
  | some x => (l,d,x.1,p + x.2)
  | none => match eol q with
    | some m => (l,d,[],p + m)
    | none => ([],[],[],0)
/-- Behind the colon. -/
def tkr (l : List UInt8) (n : Nat) (r : List UInt8) : Tk :=
  if gok r = true then (if (dst (r.drop (wht r))).2.2 = true then tkq (lbl l) (dst (r.drop (wht r))).1 (n + 1 + (wht r + (dst (r.drop (wht r))).2.1)) (r.drop (wht r + (dst (r.drop (wht r))).2.1)) else ([],[],[],0)) else ([],[],[],0)
/-- The definition with which a text begins. -/
def tk (s : List UInt8) : Tk :=
  if (lab s).2 = 0 then ([],[],[],0) else match s.drop (lab s).2 with
    | [] => ([],[],[],0)
    | x :: r => if x = 58 then tkr (lab s).1 (lab s).2 r else ([],[],[],0)
def bt4 (t : Tk) : ByteArray × ByteArray × ByteArray × Int := (B t.1,B t.2.1,B t.2.2.1,(t.2.2.2 : Int))

theorem eol_le : ∀ (s : List UInt8) (e : Nat),eol s = some e → e ≤ s.length
  | [],e,h => by rw [eol] at h;cases h;simp
  | x :: t,e,h => by
    rw [eol] at h
    by_cases hx : x = 32 ∨ x = 9
    · rw [if_pos hx] at h
      obtain ⟨e',h1,rfl⟩ := Option.map_eq_some_iff.1 h
      have := eol_le t e' h1
      simp;omega
    · rw [if_neg hx] at h
      by_cases h10 : x = 10
      · rw [if_pos h10] at h;cases h;simp
      · rw [if_neg h10] at h;cases h
theorem ttd_le (s t : List UInt8) (m : Nat) (h : ttd s = some (t,m)) : m ≤ s.length := by
  unfold ttd at h
  have h0 := wht_le s
  have h1 := ttl_le (s.drop (wht s))
  rw [List.length_drop] at h1
  by_cases c : gok s = true ∧ wht s ≠ 0
  · rw [if_pos c] at h
    by_cases c2 : (ttl (s.drop (wht s))).2 = 0
    · rw [if_pos c2] at h;cases h
    · rw [if_neg c2] at h
      obtain ⟨e,h2,h3⟩ := Option.map_eq_some_iff.1 h
      have := eol_le _ _ h2
      rw [List.length_drop] at this
      have : m = wht s + (ttl (s.drop (wht s))).2 + e := (Prod.mk.inj h3).2.symm
      omega
  · rw [if_neg c] at h;cases h
theorem gap_f (s : List UInt8) (h : s.length ≤ 1048576) : refs_gap.f (B s) = some ((wht s : Int),gok s) := by
  have hw := wht_le s
  unfold refs_gap.f
  rw [white_f s (by omega),Option.bind_some,if_pos (nn _),if_pos (szl hw)]
  have e : (B s).extract 0 ((wht s : Nat) : Int).toNat = B (s.take (wht s)) := by rw [Int.toNat_natCast];exact B_to s _
  rw [e]
  unfold strings_Count.f
  rw [if_pos (by rfl),Option.bind_some,B_data]
  unfold gok
  congr 2
  refine decide_eq_decide.2 ?_
  show ((Lib.countByte (s.take (wht s)) 10 : Nat) : Int) ≤ 1 ↔ _
  unfold Lib.countByte
  omega
def endOf : Option Nat → Int × Bool
  | some e => ((e : Int),true)
  | none => (0,false)
theorem eol_trim : ∀ s : List UInt8,eol s = match Lib.trimLeftS s [32,9] with
    | [] => some s.length
    | y :: u => if y = 10 then some (s.length - (u.length + 1) + 1) else none
  | [] => rfl
  | x :: t => by
    have ih := eol_trim t
    have hl := trim_le t [32,9]
    unfold Lib.trimLeftS at ih hl ⊢
    rw [eol,List.dropWhile_cons]
    by_cases hx : x = 32 ∨ x = 9
    · have hc : ([32,9] : List UInt8).contains x = true := by rcases hx with rfl | rfl <;> rfl
      rw [if_pos hx,if_pos hc,ih]
      cases hd : List.dropWhile (fun b => ([32,9] : List UInt8).contains b) t with
      | nil => rfl
      | cons y u =>
        rw [hd] at hl
        simp only [List.length_cons] at hl ⊢
        by_cases hy : y = 10
        · rw [if_pos hy,if_pos hy]
          simp
          omega
        · rw [if_neg hy,if_neg hy];rfl
    · have hc : ¬ ([32,9] : List UInt8).contains x = true := by simpa using hx
      rw [if_neg hx,if_neg hc]
      show _ = if x = 10 then some ((x :: t).length - (t.length + 1) + 1) else none
      simp
theorem end_f (s : List UInt8) (h : s.length ≤ 1048576) : refs_end.f (B s) = some (endOf (eol s)) := by
  unfold refs_end.f strings_TrimLeft.f
  have h1 := trim_le s [32,9]
  rw [if_pos ⟨by rw [B_size];omega,by decide,by decide⟩,Option.bind_some,B_data,show (⟨#[32,9]⟩ : ByteArray).data.toList = [32,9] from rfl,eol_trim]
  obtain ⟨u,hu⟩ : ∃ u,Lib.trimLeftS s [32,9] = u := ⟨_,rfl⟩
  rw [hu] at h1 ⊢
  have hz : (⟨u.toArray⟩ : ByteArray) = B u := rfl
  rw [hz]
  cases u with
  | nil =>
    rw [if_pos (B_toList [])]
    show some (wrap64 (((B s).size : Int) - ((B []).size : Int)),true) = some ((s.length : Int),true)
    rw [B_size,B_size,w64 (by simp <;> omega) (by simp <;> omega)]
    simp
  | cons y u =>
    have hb : bt (B (y :: u)) 0 = (y.toNat : Int) := B_bt (y :: u) 0 (by simp)
    have c10 : ((y.toNat : Int) = 10) ↔ y = 10 := u8_eq _ 10 (by omega)
    simp only [List.length_cons] at h1
    rw [if_neg (by rw [B_toList];simp),if_pos (by rw [B_size];simp <;> omega),hb]
    dsimp only
    by_cases hy : y = 10
    · rw [if_pos (c10.2 hy),if_pos hy,B_size,B_size,List.length_cons]
      show _ = some (((s.length - (u.length + 1) + 1 : Nat) : Int),true)
      rw [show wrap64 ((s.length : Int) - ((u.length + 1 : Nat) : Int)) = ((s.length - (u.length + 1) : Nat) : Int) by rw [w64 (by omega) (by omega)];omega,w64 (by omega) (by omega)]
      congr 2
    · rw [if_neg (fun e => hy (c10.1 e)),if_neg hy]
      rfl
theorem titled_ev (s : List UInt8) (hs : s.length ≤ 1048576) : ∃ X,Ev (fun k => refs_titled.f k (B s)) X ∧ (match ttd s with | some x => X = (B x.1,((x.2 : Nat) : Int),true) | none => X.2.2 = false) := by
  have hw := wht_le s
  have hT := ttl_le (s.drop (wht s))
  rw [List.length_drop] at hT
  have hno : (ttd s = none) → Ev (fun k => refs_titled.f k (B s)) (B [],0,false) → ∃ X,Ev (fun k => refs_titled.f k (B s)) X ∧ (match ttd s with | some x => X = (B x.1,((x.2 : Nat) : Int),true) | none => X.2.2 = false) := by
    intro h0 hE
    rw [h0]
    exact ⟨_,hE,rfl⟩
  have hj : Ev (fun k => refs_titled.j0 k (B s) ((wht s : Nat) : Int) true) (B [],0,false) := by
    refine Ev.step (f := fun _ => some (B [],0,false)) (fun k => ?_) (Ev.now _)
    rw [refs_titled.j0]
    exact if_pos rfl
  have hf : ∀ k,refs_titled.f k (B s) = if gok s = true then refs_titled.j0 k (B s) ((wht s : Nat) : Int) (((wht s : Nat) : Int) == 0) else refs_titled.j0 k (B s) ((wht s : Nat) : Int) true := by
    intro k
    unfold refs_titled.f
    rw [gap_f s hs]
    rfl
  by_cases hg : gok s = true
  case neg =>
    refine hno ?_ (Ev.congr (fun k => by rw [hf,if_neg hg]) hj)
    unfold ttd
    rw [if_neg (fun h => hg h.1)]
  by_cases hw0 : wht s = 0
  · refine hno ?_ (Ev.congr (fun k => by rw [hf,if_pos hg,hw0];try rfl) (by rw [hw0] at hj;exact hj))
    unfold ttd
    rw [if_neg (fun h => h.2 hw0)]
  have hb0 : (((wht s : Nat) : Int) == 0) = false := beq_eq_false_iff_ne.2 (by omega)
  have x1 : (B s).extract (((wht s : Nat) : Int)).toNat (B s).size = B (s.drop (wht s)) := by rw [Int.toNat_natCast];exact B_from s _ _ (B_size _)
  have e0 : ttd s = if (ttl (s.drop (wht s))).2 = 0 then none else (eol (s.drop (wht s + (ttl (s.drop (wht s))).2))).map fun e => ((ttl (s.drop (wht s))).1,wht s + (ttl (s.drop (wht s))).2 + e) := by
    unfold ttd
    exact if_pos ⟨hg,hw0⟩
  have ht := title_f (s.drop (wht s)) (dlen s _ hs)
  obtain ⟨T,hTe⟩ : ∃ T,ttl (s.drop (wht s)) = T := ⟨_,rfl⟩
  rw [hTe] at e0 ht hT
  have hstep : ∀ k,refs_titled.f (k + 1) (B s) = if ((T.2 : Nat) : Int) = 0 then some (B [],0,false) else if 0 ≤ wrap64 (((wht s : Nat) : Int) + ((T.2 : Nat) : Int)) then (if wrap64 (((wht s : Nat) : Int) + ((T.2 : Nat) : Int)) ≤ ((B s).size : Int) then (refs_end.f ((B s).extract ((wrap64 (((wht s : Nat) : Int) + ((T.2 : Nat) : Int))) : Int).toNat (B s).size)).bind fun bt109 => some (B T.1,wrap64 ((wrap64 (((wht s : Nat) : Int) + ((T.2 : Nat) : Int))) + bt109.1),bt109.2) else none) else none := by
    intro k
    rw [hf,if_pos hg,hb0,refs_titled.j0,if_neg (by decide),if_pos (nn _),if_pos (szl hw),x1,ht]
    rfl
  by_cases h0 : T.2 = 0
  · refine hno (by rw [e0,if_pos h0]) (Ev.step (f := fun _ => some (B [],0,false)) (fun k => ?_) (Ev.now _))
    rw [hstep,if_pos (by omega)]
  rw [if_neg h0] at e0
  have w2 : wrap64 (((wht s : Nat) : Int) + ((T.2 : Nat) : Int)) = ((wht s + T.2 : Nat) : Int) := wadd (by omega)
  have x2 : (B s).extract (((wht s + T.2 : Nat) : Int)).toNat (B s).size = B (s.drop (wht s + T.2)) := by rw [Int.toNat_natCast];exact B_from s _ _ (B_size _)
  have hE : ∀ k,refs_titled.f (k + 1) (B s) = some (B T.1,wrap64 (((wht s + T.2 : Nat) : Int) + (endOf (eol (s.drop (wht s + T.2)))).1),(endOf (eol (s.drop (wht s + T.2)))).2) := by
    intro k
    rw [hstep,if_neg (by omega),w2,if_pos (nn _),if_pos (szl (by omega)),x2,end_f _ (dlen s _ hs),Option.bind_some]
  refine ⟨_,Ev.step (f := fun _ => some _) (fun k => hE k) (Ev.now _),?_⟩
  rw [e0]
  cases he : eol (s.drop (wht s + T.2)) with
  | none => rfl
  | some e =>
    have hle := eol_le _ _ he
    rw [List.length_drop] at hle
    show (B T.1,wrap64 (((wht s + T.2 : Nat) : Int) + ((e : Nat) : Int)),true) = (B T.1,((wht s + T.2 + e : Nat) : Int),true)
    rw [wadd (by omega)]
theorem cut_hit (r : List UInt8) : strings_CutPrefix.f (B (58 :: r)) ⟨#[58]⟩ = some (B r,true) := by
  unfold strings_CutPrefix.f
  rw [B_data,show (⟨#[58]⟩ : ByteArray).data.toList = [58] from rfl,Lib.trimPrefix,show Lib.hasPrefix (58 :: r) [58] = true by simp [Lib.hasPrefix,List.isPrefixOf]]
  rfl
theorem cut_miss (u : List UInt8) (h : u.head? ≠ some 58) : strings_CutPrefix.f (B u) ⟨#[58]⟩ = some (B u,false) := by
  unfold strings_CutPrefix.f
  have hp : Lib.hasPrefix u [58] = false := by
    cases u with
    | nil => rfl
    | cons x t => 
      have hx : x ≠ 58 := fun e => h (by rw [e];rfl)
      simp [Lib.hasPrefix,List.isPrefixOf]
      exact fun e => hx e.symm
  rw [B_data,show (⟨#[58]⟩ : ByteArray).data.toList = [58] from rfl,Lib.trimPrefix,hp]
  rfl
theorem take_zero (s l r : ByteArray) (g : Int) : Ev (fun k => refs_Take.j0 k s l r g true) (bt4 ([],[],[],0)) := by
  refine Ev.step (f := fun _ => some (bt4 ([],[],[],0))) (fun k => ?_) (Ev.now _)
  rw [refs_Take.j0]
  exact if_pos rfl
theorem lab_le1 (s : List UInt8) : (lab s).1.length ≤ s.length := by
  rcases Nat.eq_zero_or_pos (lab s).2 with h | h
  · cases s with
    | nil => exact Nat.le_refl _
    | cons x t =>
      by_cases hx : x = 91
      · rw [lab_cons,if_pos hx]
        split
        · simp
        · split
          · simp
          · simp [List.length_take];omega
      · rw [lab_no x t hx];simp
  · obtain ⟨a,y,u,rfl,h1,_,_⟩ := lab_dec s h
    rw [h1]
    simp
    omega
theorem label_cf (l : List UInt8) (h : l.length ≤ 65536) : class_Label.f (B l) = some (B (lbl l)) := by
  unfold class_Label.f
  rw [if_pos (by rw [B_size];exact h),B_data]
theorem take_ev (s : List UInt8) (hs : s.length ≤ 20000) : Ev (fun k => refs_Take.f k (B s)) (bt4 (tk s)) := by
  have hl := lab_le s
  have hl1 := lab_le1 s
  obtain ⟨L,hL⟩ : ∃ L,lab s = L := ⟨_,rfl⟩
  rw [hL] at hl hl1
  have x0 : (B s).extract (((L.2 : Nat) : Int)).toNat (B s).size = B (s.drop L.2) := by rw [Int.toNat_natCast];exact B_from s _ _ (B_size _)
  have hf : ∀ k,refs_Take.f k (B s) = (strings_CutPrefix.f (B (s.drop L.2)) ⟨#[58]⟩).bind fun bt114 => ((refs_gap.f bt114.1).bind fun bt116 => (if ((L.2 : Nat) : Int) = 0 then (refs_Take.j0 k (B s) (B L.1) bt114.1 bt116.1 true) else (if bt114.2 = true then (refs_Take.j0 k (B s) (B L.1) bt114.1 bt116.1 (!bt116.2)) else (refs_Take.j0 k (B s) (B L.1) bt114.1 bt116.1 true)))) := by
    intro k
    unfold refs_Take.f
    rw [label_f s (by omega),hL,Option.bind_some,if_pos (nn _),if_pos (szl hl),x0]
  have e0 : tk s = if L.2 = 0 then ([],[],[],0) else match s.drop L.2 with
    | [] => ([],[],[],0)
    | x :: r => if x = 58 then tkr L.1 L.2 r else ([],[],[],0) := by unfold tk;rw [hL]
  rw [e0]
  have hmiss : (s.drop L.2).head? ≠ some 58 → Ev (fun k => refs_Take.f k (B s)) (bt4 ([],[],[],0)) := by
    intro h
    refine Ev.congr (fun k => ?_) (take_zero (B s) (B L.1) (B (s.drop L.2)) ((wht (s.drop L.2) : Nat) : Int))
    rw [hf,cut_miss _ h,Option.bind_some,gap_f _ (by rw [List.length_drop];omega),Option.bind_some]
    by_cases h0 : ((L.2 : Nat) : Int) = 0
    · rw [if_pos h0]
    · rw [if_neg h0];rfl
  cases hd : s.drop L.2 with
  | nil =>
    rw [hd] at hmiss
    by_cases h0 : L.2 = 0
    · rw [if_pos h0];exact hmiss (by simp)
    · rw [if_neg h0];exact hmiss (by simp)
  | cons x r =>
    rw [hd] at hmiss hf
    have hlen : s.length = L.2 + 1 + r.length := by
      have := congrArg List.length hd
      rw [List.length_drop,List.length_cons] at this
      omega
    by_cases hx : x = 58
    case neg =>
      have hz : (if L.2 = 0 then (([],[],[],0) : Tk) else if x = 58 then tkr L.1 L.2 r else ([],[],[],0)) = ([],[],[],0) := by rw [if_neg hx,ite_self]
      show Ev _ (bt4 (if L.2 = 0 then (([],[],[],0) : Tk) else if x = 58 then tkr L.1 L.2 r else ([],[],[],0)))
      rw [hz]
      exact hmiss (fun e => hx (Option.some.inj e))
    subst hx
    show Ev _ (bt4 (if L.2 = 0 then (([],[],[],0) : Tk) else if (58 : UInt8) = 58 then tkr L.1 L.2 r else ([],[],[],0)))
    rw [if_pos (rfl : (58 : UInt8) = 58)]
    have hf2 : ∀ k,refs_Take.f k (B s) = if ((L.2 : Nat) : Int) = 0 then refs_Take.j0 k (B s) (B L.1) (B r) ((wht r : Nat) : Int) true else refs_Take.j0 k (B s) (B L.1) (B r) ((wht r : Nat) : Int) (!gok r) := by
      intro k
      rw [hf,cut_hit,Option.bind_some,gap_f r (by omega)]
      rfl
    by_cases h0 : L.2 = 0
    · rw [if_pos h0]
      refine Ev.congr (fun k => ?_) (take_zero (B s) (B L.1) (B r) ((wht r : Nat) : Int))
      rw [hf2,if_pos (by omega)]
    rw [if_neg h0]
    unfold tkr
    have hw := wht_le r
    by_cases hg : gok r = true
    case neg =>
      rw [if_neg hg]
      refine Ev.congr (fun k => ?_) (take_zero (B s) (B L.1) (B r) ((wht r : Nat) : Int))
      rw [hf2,if_neg (by omega),show gok r = false by simpa using hg]
      rfl
    rw [if_pos hg]
    have x1 : (B r).extract (((wht r : Nat) : Int)).toNat (B r).size = B (r.drop (wht r)) := by rw [Int.toNat_natCast];exact B_from r _ _ (B_size _)
    have hd1 := dest_f (r.drop (wht r)) (dlen r _ (by omega))
    have hD := dst_le (r.drop (wht r))
    rw [List.length_drop] at hD
    obtain ⟨D,hDe⟩ : ∃ D,dst (r.drop (wht r)) = D := ⟨_,rfl⟩
    rw [hDe] at hd1 hD ⊢
    have w1 : wrap64 (((wht r : Nat) : Int) + ((D.2.1 : Nat) : Int)) = ((wht r + D.2.1 : Nat) : Int) := wadd (by omega)
    have x2 : (B r).extract (((wht r + D.2.1 : Nat) : Int)).toNat (B r).size = B (r.drop (wht r + D.2.1)) := by rw [Int.toNat_natCast];exact B_from r _ _ (B_size _)
    have hql : (r.drop (wht r + D.2.1)).length = r.length - (wht r + D.2.1) := List.length_drop
    obtain ⟨q,hq⟩ : ∃ q,r.drop (wht r + D.2.1) = q := ⟨_,rfl⟩
    rw [hq] at x2 hql
    by_cases hok : D.2.2 = true
    case neg =>
      rw [if_neg hok]
      refine Ev.step (f := fun _ => some (bt4 ([],[],[],0))) (fun k => ?_) (Ev.now _)
      rw [hf2,if_neg (by omega),hg,refs_Take.j0,if_neg (by decide),if_pos (nn _),if_pos (szl hw),x1,hd1,Option.bind_some]
      exact if_neg hok
    rw [if_pos hok,hq]
    obtain ⟨X,hX,hXt⟩ := titled_ev q (by omega)
    have w3 : wrap64 (((B s).size : Int) - ((B q).size : Int)) = ((L.2 + 1 + (wht r + D.2.1) : Nat) : Int) := by
      rw [B_size,B_size,hql,w64 (by omega) (by omega)]
      omega
    refine Ev.step (f := fun k => (refs_titled.f k (B q)).bind fun bt123 => (if bt123.2.2 = true then (some (B (lbl L.1),B D.1,bt123.1,wrap64 (((L.2 + 1 + (wht r + D.2.1) : Nat) : Int) + bt123.2.1))) else ((refs_end.f (B q)).bind fun bt126 => (if bt126.2 = true then (some (B (lbl L.1),B D.1,(⟨#[]⟩ : ByteArray),wrap64 (((L.2 + 1 + (wht r + D.2.1) : Nat) : Int) + bt126.1))) else (some ((⟨#[]⟩ : ByteArray),(⟨#[]⟩ : ByteArray),(⟨#[]⟩ : ByteArray),0)))))) (fun k => ?_) (Ev.bind hX ?_)
    · rw [hf2,if_neg (by omega),hg,refs_Take.j0,if_neg (by decide),if_pos (nn _),if_pos (szl hw),x1,hd1,Option.bind_some]
      dsimp only
      rw [if_pos hok,w1,if_pos (nn _),if_pos (szl (by omega)),x2,label_cf _ (by omega),Option.bind_some,w3]
    · unfold tkq
      cases htt : ttd q with
      | some x =>
        rw [htt] at hXt
        have hm := ttd_le q x.1 x.2 htt
        subst hXt
        refine Ev.congr (f := fun _ => some (bt4 (lbl L.1,D.1,x.1,L.2 + 1 + (wht r + D.2.1) + x.2))) (fun k => ?_) (Ev.now _)
        rw [if_pos rfl]
        show some (B (lbl L.1),B D.1,B x.1,wrap64 (((L.2 + 1 + (wht r + D.2.1) : Nat) : Int) + ((x.2 : Nat) : Int))) = _
        rw [wadd (by omega)]
        rfl
      | none =>
        rw [htt] at hXt
        have hXf : X.2.2 = false := hXt
        cases he : eol q with
        | some m =>
          have hm := eol_le q m he
          refine Ev.congr (f := fun _ => some (bt4 (lbl L.1,D.1,[],L.2 + 1 + (wht r + D.2.1) + m))) (fun k => ?_) (Ev.now _)
          rw [hXf,if_neg (by decide),end_f q (by omega),he,Option.bind_some]
          show (if true = true then some (B (lbl L.1),B D.1,(⟨#[]⟩ : ByteArray),wrap64 (((L.2 + 1 + (wht r + D.2.1) : Nat) : Int) + ((m : Nat) : Int))) else _) = _
          rw [if_pos rfl,wadd (by omega)]
          rfl
        | none =>
          refine Ev.congr (f := fun _ => some (bt4 ([],[],[],0))) (fun k => ?_) (Ev.now _)
          rw [hXf,if_neg (by decide),end_f q (by omega),he,Option.bind_some]
          rfl
end Go.Proofs.YtekifcbokdidlaaGreatDoor.Pure

namespace Go.Proofs.YtekifcbokdidlaaGreatDoor.Pure
open Go.RowKit Go.Proofs.YtekifcbokdidlaaGreatDoorW.PrintWords Go.Proofs.YtekifcbokdidlaaGreatDoorW.PrintMore Go.Proofs.YtekifcbokdidlaaGreatDoor.Pl Go.Proofs.YtekifcbokdidlaaGreatDoor.PA

theorem and3 (n : Int) : Go.bits .and .i64 n 3 = n % 4 := by
  have h127 : (BitVec.ofInt 64 3).toNat = 2 ^ 2 - 1 := by decide
  have key : (BitVec.ofInt 64 n &&& BitVec.ofInt 64 3).toNat = (n % ((2 ^ 64 : Nat) : Int)).toNat % 2 ^ 2 := by
    rw [BitVec.toNat_and,BitVec.toNat_ofInt,h127,Nat.and_two_pow_sub_one_eq_mod]
  show IntKind.i64.wrap ((BitVec.ofInt 64 n &&& BitVec.ofInt 64 3).toNat : Nat) = n % 4
  rw [key,IntKind.wrap_i64]
  omega
/-- Small letters. -/
def lw (l : List UInt8) : Prop := ∀ x ∈ l,97 ≤ x.toNat ∧ x.toNat ≤ 122
theorem lw_ok {l : List UInt8} (h : lw l) : ∀ x ∈ l,okA x := fun x hx => .inl (h x hx)
theorem chars_lo (x : UInt8) (t : List UInt8) (h : x.toNat < 128) : chars (x :: t) = (x.toNat : Int) :: chars t := by
  unfold chars
  rw [List.length_cons,rl,dec_L (x :: t) (by simp),dec_lo x t h]
  rfl
theorem foldB_lw (x : UInt8) (h : 97 ≤ x.toNat ∧ x.toNat ≤ 122) : foldB (x.toNat : Int) = [x] := by
  have key : ∀ n : Fin 256,97 ≤ n.val ∧ n.val ≤ 122 → foldB ((n.val : Nat) : Int) = [UInt8.ofNat n.val] := by decide +kernel
  have := key ⟨x.toNat,x.toNat_lt⟩ h
  rw [this]
  simp
theorem fold_lw : ∀ l : List UInt8,lw l → foldL (chars (clean l)) = l
  | [],_ => rfl
  | x :: t,h => by
    have hx := h x (by simp)
    rw [clean_w x t (by omega) (by rintro rfl;exact absurd hx.1 (by decide)),chars_lo x _ (by omega)]
    unfold foldL
    rw [List.flatMap_cons,foldB_lw x hx]
    have := fold_lw t (fun y hy => h y (by simp [hy]))
    unfold foldL at this
    rw [this]
    rfl
theorem lbl_lw (l : List UInt8) (hl : lw l) (hn : l ≠ []) : lbl l = l := by
  have hnw : nw l := by
    intro x hx
    have := hl x hx
    unfold whB
    rw [decide_eq_false (by omega),decide_eq_false (p := x.toNat ≤ 13) (by omega),Bool.and_false]
    rfl
  unfold lbl
  rw [fl_none l [] hnw,List.nil_append,if_neg hn]
  exact fold_lw l hl
/-- What stands between two parts. -/
def gL : Nat → List UInt8
  | 0 => [32]
  | 1 => [10]
  | 2 => [32,10,9]
  | _ => [9]
theorem gL_wht (j : Nat) (hj : j < 4) (x : UInt8) (t : List UInt8) (hx : wsp x = false) : wht (gL j ++ x :: t) = (gL j).length := by
  have hz : wht (x :: t) = 0 := by rw [wht_cons,if_neg (by rw [hx];decide)]
  have h1 : ∀ (c : UInt8) (r : List UInt8),wsp c = true → wht (c :: r) = wht r + 1 := fun c r h => by rw [wht_cons,if_pos h]
  match j,hj with
  | 0,_ => show wht (32 :: x :: t) = 1;rw [h1 32 _ rfl,hz]
  | 1,_ => show wht (10 :: x :: t) = 1;rw [h1 10 _ rfl,hz]
  | 2,_ => show wht (32 :: 10 :: 9 :: x :: t) = 3;rw [h1 32 _ rfl,h1 10 _ rfl,h1 9 _ rfl,hz]
  | 3,_ => show wht (9 :: x :: t) = 1;rw [h1 9 _ rfl,hz]
theorem gL_gok (j : Nat) (hj : j < 4) (x : UInt8) (t : List UInt8) (hx : wsp x = false) : gok (gL j ++ x :: t) = true := by
  unfold gok
  rw [gL_wht j hj x t hx,List.take_left]
  match j,hj with
  | 0,_ => rfl
  | 1,_ => rfl
  | 2,_ => rfl
  | 3,_ => rfl
theorem gL_head (j : Nat) (hj : j < 4) : ∃ y r,gL j = y :: r ∧ dstp 0 y = true := by
  match j,hj with
  | 0,_ => exact ⟨32,[],rfl,rfl⟩
  | 1,_ => exact ⟨10,[],rfl,rfl⟩
  | 2,_ => exact ⟨32,[10,9],rfl,rfl⟩
  | 3,_ => exact ⟨9,[],rfl,rfl⟩
theorem gL_eol (j : Nat) (hj : j < 4) (t : List UInt8) : eol (gL j ++ 39 :: t) = if j = 1 then some 1 else if j = 2 then some 2 else none := by
  match j,hj with
  | 0,_ => rfl
  | 1,_ => rfl
  | 2,_ => rfl
  | 3,_ => rfl
def qOf (j : Nat) (tt suf : List UInt8) : List UInt8 := gL j ++ 39 :: (tt ++ 39 :: suf)
theorem ttd_q (j : Nat) (hj : j < 4) (tt suf : List UInt8) (ht : lw tt) : ttd (qOf j tt suf) = (eol suf).map fun e => (tt,(gL j).length + (tt.length + 2) + e) := by
  have hw : wht (qOf j tt suf) = (gL j).length := gL_wht j hj 39 _ rfl
  have hg : gok (qOf j tt suf) = true := gL_gok j hj 39 _ rfl
  have hne : (gL j).length ≠ 0 := by obtain ⟨y,r,e,_⟩ := gL_head j hj;rw [e];simp
  have hd : (qOf j tt suf).drop (gL j).length = 39 :: (tt ++ 39 :: suf) := List.drop_left' rfl
  have htt : ttl (39 :: (tt ++ 39 :: suf)) = (tt,tt.length + 2) := ttl_okA 39 tt suf (.inr (.inl rfl)) (lw_ok ht)
  have hd2 : (qOf j tt suf).drop ((gL j).length + (tt.length + 2)) = suf := by
    rw [← List.drop_drop,hd,show tt.length + 2 = (tt.length + 1) + 1 by omega,List.drop_succ_cons,← List.drop_drop,List.drop_left' rfl]
    rfl
  unfold ttd
  rw [hw,if_pos ⟨hg,hne⟩,hd,htt]
  dsimp only
  rw [if_neg (by omega),hd2]
def sOf (lb ds tt : List UInt8) (i j : Nat) (suf : List UInt8) : List UInt8 := 91 :: (lb ++ 93 :: 58 :: (gL i ++ (ds ++ qOf j tt suf)))
theorem tk_s (lb ds tt : List UInt8) (i j : Nat) (suf : List UInt8) (hi : i < 4) (hj : j < 4) (hl : lw lb) (hd : lw ds) (ht : lw tt) (nl : lb ≠ []) (nd : ds ≠ []) (hlen : lb.length ≤ 300) :
    tk (sOf lb ds tt i j suf) = match (eol suf).map fun e => (tt,(gL j).length + (tt.length + 2) + e) with
      | some x => (lb,ds,x.1,lb.length + 2 + 1 + ((gL i).length + ds.length) + x.2)
      | none => match eol (qOf j tt suf) with
        | some m => (lb,ds,[],lb.length + 2 + 1 + ((gL i).length + ds.length) + m)
        | none => ([],[],[],0) := by
  have hl0 : lb.length ≠ 0 := fun e => nl (List.length_eq_zero_iff.1 e)
  have he : eachL pLab (lb ++ 93 :: 58 :: (gL i ++ (ds ++ qOf j tt suf))) = lb.length := by
    rw [each_plain pLab lb _ (fun x hx => ?_),each_stop pLab rfl 93 _ rfl,Nat.add_zero]
    obtain ⟨a,_,_,_,_,_,_,_,_,_,_,_,b,c,_⟩ := okA_all (lw_ok hl x hx)
    refine ⟨a,?_⟩
    unfold pLab
    rw [decide_eq_false b,decide_eq_false c]
    rfl
  have hw0 : wht lb = 0 := by
    cases lb with
    | nil => exact absurd rfl nl
    | cons x r => rw [wht_cons,if_neg (by rw [wsp_okA (lw_ok hl x (by simp))];decide)]
  have hlab : lab (sOf lb ds tt i j suf) = (lb,lb.length + 2) := by
    unfold sOf
    rw [lab_cons,if_pos rfl,he,List.drop_left' rfl]
    dsimp only
    rw [List.take_left' rfl,if_neg (by rintro (e | e | e);exact absurd e (by decide);omega;rw [hw0] at e;exact hl0 e.symm)]
  have hdr : (sOf lb ds tt i j suf).drop (lb.length + 2) = 58 :: (gL i ++ (ds ++ qOf j tt suf)) := by
    unfold sOf
    rw [show lb.length + 2 = (lb.length + 1) + 1 by omega,List.drop_succ_cons,← List.drop_drop,List.drop_left' rfl]
    rfl
  obtain ⟨x0,d',hds⟩ : ∃ x r,ds = x :: r := by
    cases ds with
    | nil => exact absurd rfl nd
    | cons x r => exact ⟨x,r,rfl⟩
  have hx0 : wsp x0 = false := wsp_okA (lw_ok hd x0 (by rw [hds];simp))
  have hwR : wht (gL i ++ (ds ++ qOf j tt suf)) = (gL i).length := by rw [hds];exact gL_wht i hi x0 _ hx0
  have hgR : gok (gL i ++ (ds ++ qOf j tt suf)) = true := by rw [hds];exact gL_gok i hi x0 _ hx0
  have hdR : (gL i ++ (ds ++ qOf j tt suf)).drop (gL i).length = ds ++ qOf j tt suf := List.drop_left' rfl
  have hdst : dst (ds ++ qOf j tt suf) = (ds,ds.length,true) := by
    obtain ⟨y,r,e,hy⟩ := gL_head j hj
    unfold qOf
    rw [e,List.cons_append]
    exact dst_okA ds y _ (lw_ok hd) nd hy
  have hdQ : (gL i ++ (ds ++ qOf j tt suf)).drop ((gL i).length + ds.length) = qOf j tt suf := by rw [← List.drop_drop,hdR,List.drop_left' rfl]
  unfold tk
  rw [hlab]
  dsimp only
  rw [if_neg (by omega),hdr]
  dsimp only
  rw [if_pos rfl]
  unfold tkr
  rw [if_pos hgR,hwR,hdR,hdst]
  dsimp only
  rw [if_pos rfl,hdQ,lbl_lw lb hl nl]
  unfold tkq
  rw [ttd_q j hj tt suf ht]
  all_goals
    generalize Option.map _ (eol suf) = o
    cases o with
    | some x => rfl
    | none => cases eol (qOf j tt suf) <;> rfl
end Go.Proofs.YtekifcbokdidlaaGreatDoor.Pure

namespace Go.Proofs.YtekifcbokdidlaaGreatDoor.PA
open Go.RowKit Go.Proofs.YtekifcbokdidlaaGreatDoorW.PrintWords Go.Proofs.YtekifcbokdidlaaGreatDoorW.PrintLast Go.Proofs.YtekifcbokdidlaaGreatDoorW.PrintMore
attribute [local go_sem] max2_int min2_int max_two min_two max_three min_three max_four min_four   -- for this text's walks alone
set_option linter.unusedVariables false
set_option linter.unusedSimpArgs false

/-! ### incipitref01_between: function 111 -/
end Go.Proofs.YtekifcbokdidlaaGreatDoor.PA
namespace Go.Proofs.YtekifcbokdidlaaGreatDoor.PA
open Go.RowKit Go.Proofs.YtekifcbokdidlaaGreatDoorW.PrintWords Go.Proofs.YtekifcbokdidlaaGreatDoorW.PrintLast Go.Proofs.YtekifcbokdidlaaGreatDoorW.PrintMore
attribute [local go_sem] max2_int min2_int max_two min_two max_three min_three max_four min_four   -- for this text's walks alone
set_option linter.unusedVariables false
set_option linter.unusedSimpArgs false

/-! ### incipitref01_good: function 94 -/
end Go.Proofs.YtekifcbokdidlaaGreatDoor.PA
namespace Go.Proofs.YtekifcbokdidlaaGreatDoor.PA
open Go.RowKit Go.Proofs.YtekifcbokdidlaaGreatDoorW.PrintWords Go.Proofs.YtekifcbokdidlaaGreatDoorW.PrintLast Go.Proofs.YtekifcbokdidlaaGreatDoorW.PrintMore
attribute [local go_sem] max2_int min2_int max_two min_two max_three min_three max_four min_four   -- for this text's walks alone
set_option linter.unusedVariables false
set_option linter.unusedSimpArgs false

/-! ### incipitref01_Clean: function 93 -/

end Go.Proofs.YtekifcbokdidlaaGreatDoor.PA

namespace Go.Proofs.YtekifcbokdidlaaGreatDoor.Pl
open Go.RowKit Go.Proofs.YtekifcbokdidlaaGreatDoorW.PrintWords Go.Proofs.YtekifcbokdidlaaGreatDoorW.PrintMore Go.Proofs.YtekifcbokdidlaaGreatDoor.PA

/-- Whether a text of n bytes begins with a character, and how many bytes it is: by the bytes' ranges. -/
def gN (n b0 b1 b2 b3 : Nat) : Nat :=
  if b0 ≤ 127 then 1 else if (194 ≤ b0 ∧ b0 ≤ 223) ∧ (1 < n ∧ 128 ≤ b1 ∧ b1 ≤ 191) then 2 else if ¬ (2 < n ∧ 128 ≤ b2 ∧ b2 ≤ 191) then 0
  else if (b0 = 224 ∧ 1 < n ∧ 160 ≤ b1 ∧ b1 ≤ 191) ∨ (b0 = 237 ∧ 1 < n ∧ 128 ≤ b1 ∧ b1 ≤ 159) ∨ ((225 ≤ b0 ∧ b0 ≤ 236 ∨ 238 ≤ b0 ∧ b0 ≤ 239) ∧ 1 < n ∧ 128 ≤ b1 ∧ b1 ≤ 191) then 3
  else if ¬ (3 < n ∧ 128 ≤ b3 ∧ b3 ≤ 191) then 0
  else if (b0 = 240 ∧ 144 ≤ b1 ∧ b1 ≤ 191) ∨ ((241 ≤ b0 ∧ b0 ≤ 243) ∧ 128 ≤ b1 ∧ b1 ≤ 191) ∨ (b0 = 244 ∧ 128 ≤ b1 ∧ b1 ≤ 143) then 4 else 0
set_option maxHeartbeats 4000000 in
/-- The decoder and the ranges say the same, the character's number with it. -/
theorem gN_dec (n b0 b1 b2 b3 : Nat) (h0 : b0 < 256) (h1 : b1 < 256) (h2 : b2 < 256) (h3 : b3 < 256) :
    (gN n b0 b1 b2 b3 = 0 ∧ Lib.decodeN n b0 b1 b2 b3 = (65533,1) ∧ 128 ≤ b0) ∨
    (gN n b0 b1 b2 b3 = 1 ∧ Lib.decodeN n b0 b1 b2 b3 = (b0,1) ∧ b0 ≤ 127) ∨
    (gN n b0 b1 b2 b3 = 2 ∧ Lib.decodeN n b0 b1 b2 b3 = ((b0 - 192) * 64 + b1 - 128,2) ∧ 1 < n ∧ 194 ≤ b0 ∧ b0 ≤ 223 ∧ 128 ≤ b1 ∧ b1 ≤ 191) ∨
    (gN n b0 b1 b2 b3 = 3 ∧ Lib.decodeN n b0 b1 b2 b3 = (((b0 - 224) * 64 + b1 - 128) * 64 + b2 - 128,3) ∧ 2 < n ∧ 224 ≤ b0 ∧ b0 ≤ 239 ∧ 128 ≤ b1 ∧ b1 ≤ 191 ∧ 128 ≤ b2 ∧ b2 ≤ 191) ∨
    (gN n b0 b1 b2 b3 = 4 ∧ Lib.decodeN n b0 b1 b2 b3 = ((((b0 - 240) * 64 + b1 - 128) * 64 + b2 - 128) * 64 + b3 - 128,4) ∧ 3 < n ∧ 240 ≤ b0 ∧ b0 ≤ 244 ∧ 128 ≤ b1 ∧ b1 ≤ 191 ∧ 128 ≤ b2 ∧ b2 ≤ 191 ∧ 128 ≤ b3 ∧ b3 ≤ 191) := by
  by_cases c0 : b0 ≤ 127
  · exact .inr (.inl ⟨by unfold gN;rw [if_pos c0],by unfold Lib.decodeN;rw [if_pos (show b0 < 128 by omega)],c0⟩)
  · have k0 : ¬ b0 < 128 := by omega
    by_cases c1 : (194 ≤ b0 ∧ b0 ≤ 223) ∧ (1 < n ∧ 128 ≤ b1 ∧ b1 ≤ 191)
    · have k1 : b0 / 32 = 6 ∧ (1 < n ∧ b1 / 64 = 2) := by omega
      have k2 : b0 % 32 * 64 + b1 % 64 ≥ 128 := by omega
      have e : b0 % 32 * 64 + b1 % 64 = (b0 - 192) * 64 + b1 - 128 := by omega
      exact .inr (.inr (.inl ⟨by unfold gN;rw [if_neg c0,if_pos c1],by unfold Lib.decodeN;rw [if_neg k0,if_pos k1,if_pos k2,e],by omega⟩))
    · by_cases c2 : ¬ (2 < n ∧ 128 ≤ b2 ∧ b2 ≤ 191)
      · refine .inl ⟨by unfold gN;rw [if_neg c0,if_neg c1,if_pos c2],?_,by omega⟩
        have k3 : ¬ (b0 / 16 = 14 ∧ (1 < n ∧ b1 / 64 = 2) ∧ (2 < n ∧ b2 / 64 = 2)) := by omega
        have k4 : ¬ (b0 / 8 = 30 ∧ (1 < n ∧ b1 / 64 = 2) ∧ (2 < n ∧ b2 / 64 = 2) ∧ (3 < n ∧ b3 / 64 = 2)) := by omega
        unfold Lib.decodeN
        rw [if_neg k0,if_neg k3,if_neg k4]
        split
        · rw [if_neg (by omega)]
        · rfl
      · by_cases c3 : (b0 = 224 ∧ 1 < n ∧ 160 ≤ b1 ∧ b1 ≤ 191) ∨ (b0 = 237 ∧ 1 < n ∧ 128 ≤ b1 ∧ b1 ≤ 159) ∨ ((225 ≤ b0 ∧ b0 ≤ 236 ∨ 238 ≤ b0 ∧ b0 ≤ 239) ∧ 1 < n ∧ 128 ≤ b1 ∧ b1 ≤ 191)
        · have k1 : ¬ (b0 / 32 = 6 ∧ (1 < n ∧ b1 / 64 = 2)) := by omega
          have k3 : b0 / 16 = 14 ∧ (1 < n ∧ b1 / 64 = 2) ∧ (2 < n ∧ b2 / 64 = 2) := by omega
          have e : b0 % 16 * 4096 + b1 % 64 * 64 + b2 % 64 = ((b0 - 224) * 64 + b1 - 128) * 64 + b2 - 128 := by omega
          have k5 : b0 % 16 * 4096 + b1 % 64 * 64 + b2 % 64 ≥ 2048 ∧ (b0 % 16 * 4096 + b1 % 64 * 64 + b2 % 64 < 55296 ∨ (57344 ≤ b0 % 16 * 4096 + b1 % 64 * 64 + b2 % 64 ∧ b0 % 16 * 4096 + b1 % 64 * 64 + b2 % 64 ≤ 1114111)) := by omega
          exact .inr (.inr (.inr (.inl ⟨by unfold gN;rw [if_neg c0,if_neg c1,if_neg c2,if_pos c3],by unfold Lib.decodeN;rw [if_neg k0,if_neg k1,if_pos k3,if_pos k5,e],by omega⟩)))
        · by_cases c4 : ¬ (3 < n ∧ 128 ≤ b3 ∧ b3 ≤ 191)
          · refine .inl ⟨by unfold gN;rw [if_neg c0,if_neg c1,if_neg c2,if_neg c3,if_pos c4],?_,by omega⟩
            have k4 : ¬ (b0 / 8 = 30 ∧ (1 < n ∧ b1 / 64 = 2) ∧ (2 < n ∧ b2 / 64 = 2) ∧ (3 < n ∧ b3 / 64 = 2)) := by omega
            unfold Lib.decodeN
            rw [if_neg k0,if_neg k4]
            split
            · rw [if_neg (by omega)]
            · split
              · rw [if_neg (by omega)]
              · rfl
          · by_cases c5 : (b0 = 240 ∧ 144 ≤ b1 ∧ b1 ≤ 191) ∨ ((241 ≤ b0 ∧ b0 ≤ 243) ∧ 128 ≤ b1 ∧ b1 ≤ 191) ∨ (b0 = 244 ∧ 128 ≤ b1 ∧ b1 ≤ 143)
            · have k1 : ¬ (b0 / 32 = 6 ∧ (1 < n ∧ b1 / 64 = 2)) := by omega
              have k3 : ¬ (b0 / 16 = 14 ∧ (1 < n ∧ b1 / 64 = 2) ∧ (2 < n ∧ b2 / 64 = 2)) := by omega
              have k4 : b0 / 8 = 30 ∧ (1 < n ∧ b1 / 64 = 2) ∧ (2 < n ∧ b2 / 64 = 2) ∧ (3 < n ∧ b3 / 64 = 2) := by omega
              have e : b0 % 8 * 262144 + b1 % 64 * 4096 + b2 % 64 * 64 + b3 % 64 = (((b0 - 240) * 64 + b1 - 128) * 64 + b2 - 128) * 64 + b3 - 128 := by omega
              have k5 : b0 % 8 * 262144 + b1 % 64 * 4096 + b2 % 64 * 64 + b3 % 64 ≥ 65536 ∧ (b0 % 8 * 262144 + b1 % 64 * 4096 + b2 % 64 * 64 + b3 % 64 < 55296 ∨ (57344 ≤ b0 % 8 * 262144 + b1 % 64 * 4096 + b2 % 64 * 64 + b3 % 64 ∧ b0 % 8 * 262144 + b1 % 64 * 4096 + b2 % 64 * 64 + b3 % 64 ≤ 1114111)) := by omega
              exact .inr (.inr (.inr (.inr ⟨by unfold gN;rw [if_neg c0,if_neg c1,if_neg c2,if_neg c3,if_neg c4,if_pos c5],by unfold Lib.decodeN;rw [if_neg k0,if_neg k1,if_neg k3,if_pos k4,if_pos k5,e],by omega⟩)))
            · refine .inl ⟨by unfold gN;rw [if_neg c0,if_neg c1,if_neg c2,if_neg c3,if_neg c4,if_neg c5],?_,by omega⟩
              unfold Lib.decodeN
              rw [if_neg k0]
              split
              · rw [if_neg (by omega)]
              · split
                · rw [if_neg (by omega)]
                · split
                  · rw [if_neg (by omega)]
                  · rfl
end Go.Proofs.YtekifcbokdidlaaGreatDoor.Pl

namespace Go.Proofs.YtekifcbokdidlaaGreatDoor.Pl
open Go.RowKit Go.Proofs.YtekifcbokdidlaaGreatDoorW.PrintWords Go.Proofs.YtekifcbokdidlaaGreatDoorW.PrintMore Go.Proofs.YtekifcbokdidlaaGreatDoor.PA

end Go.Proofs.YtekifcbokdidlaaGreatDoor.Pl

namespace Go.Proofs.YtekifcbokdidlaaGreatDoor.Pl
open Go.RowKit Go.Proofs.YtekifcbokdidlaaGreatDoorW.PrintWords Go.Proofs.YtekifcbokdidlaaGreatDoorW.PrintMore Go.Proofs.YtekifcbokdidlaaGreatDoor.PA

/-- How many bytes the reference's character is, 0: none. -/
def gl (l : List UInt8) : Nat := gN l.length (l.getD 0 0).toNat (l.getD 1 0).toNat (l.getD 2 0).toNat (l.getD 3 0).toNat
end Go.Proofs.YtekifcbokdidlaaGreatDoor.Pl

namespace Go.Proofs.YtekifcbokdidlaaGreatDoor.PA
open Go.RowKit Go.Proofs.YtekifcbokdidlaaGreatDoorW.PrintWords Go.Proofs.YtekifcbokdidlaaGreatDoorW.PrintLast Go.Proofs.YtekifcbokdidlaaGreatDoorW.PrintMore Go.Proofs.YtekifcbokdidlaaGreatDoor.Pl
set_option linter.unusedVariables false

end Go.Proofs.YtekifcbokdidlaaGreatDoor.PA

namespace Go.Proofs.YtekifcbokdidlaaGreatDoor.PA
open Go.RowKit Go.Proofs.YtekifcbokdidlaaGreatDoorW.PrintWords Go.Proofs.YtekifcbokdidlaaGreatDoorW.PrintLast Go.Proofs.YtekifcbokdidlaaGreatDoorW.PrintMore
attribute [local go_sem] max2_int min2_int max_two min_two max_three min_three max_four min_four   -- for this text's walks alone
set_option linter.unusedVariables false
set_option linter.unusedSimpArgs false






/-! ### incipitlaw10_awake: function 8 -/
def incipitlaw10_awake.f (k : Nat)  : Option (Bool) := (refs_Take.f k (⟨#[91,97,93,58,32,47,117,10,120]⟩ : ByteArray)).bind fun bt128 => ((refs_Take.f k (⟨#[91,97,93,58,32,47,117,32,39,116,39,10,120]⟩ : ByteArray)).bind fun bt133 => ((refs_All.f k (⟨#[91,65,93,58,32,98,10,91,99,93,58,32,100,10,101]⟩ : ByteArray)).bind fun bt138 => ((refs_Find.f bt138.1 (⟨#[32,97,32]⟩ : ByteArray)).bind fun bt142 => (if bt128.1.toList = ([97] : List UInt8) then (if bt128.2.1.toList = ([47,117] : List UInt8) then (if bt128.2.2.2 = 8 then (if bt133.2.2.1.toList = ([116] : List UInt8) then (if bt133.2.2.2 = 12 then (if (bt138.1.length : Int) = 2 then (if bt138.2.toList = ([101] : List UInt8) then (if bt142.2.2.2 = true then (some (bt142.2.1.toList == ([98] : List UInt8))) else (none)) else (none)) else (none)) else (none)) else (none)) else (none)) else (none)) else (none)))))
theorem incipitlaw10_awake.mono : ∀ k,LeO (incipitlaw10_awake.f k ) (incipitlaw10_awake.f (k + 1) ) := by
  intro  k
  unfold incipitlaw10_awake.f
  repeat' first
      | (with_reducible exact refs_All.mono _ _)
      | (with_reducible exact refs_Take.mono _ _)
      | (with_reducible exact LeO.refl _)
      | (with_reducible exact LeO.none _)
      | (with_reducible refine LeO.ite ?_ ?_)
      | (with_reducible refine LeO.bind ?_ (fun _ => ?_))
      | exact refs_All.mono _ _
      | exact refs_Take.mono _ _
      | exact LeO.none _
      | refine LeO.ite ?_ ?_
      | refine LeO.bind ?_ (fun _ => ?_)
set_option maxHeartbeats 8000000 in
set_option maxRecDepth 100000 in
theorem incipitlaw10_awake.calls (k : Nat)  (r : Bool) (w : World) (hLd : Laid w) (h : incipitlaw10_awake.f k  = some r) :
    Calls Tryz.prog 8 #[] w fun e w' => e = .returned (.bool r) ∧ Below w.heap.size w w' := by
  have hu26 := Tryz.underlying26
  have HB := Aside0.mk (Below.refl w.heap.size w)
  have H : ((refs_Take.f k (⟨#[91,97,93,58,32,47,117,10,120]⟩ : ByteArray)).bind fun bt128 => ((refs_Take.f k (⟨#[91,97,93,58,32,47,117,32,39,116,39,10,120]⟩ : ByteArray)).bind fun bt133 => ((refs_All.f k (⟨#[91,65,93,58,32,98,10,91,99,93,58,32,100,10,101]⟩ : ByteArray)).bind fun bt138 => ((refs_Find.f bt138.1 (⟨#[32,97,32]⟩ : ByteArray)).bind fun bt142 => (if bt128.1.toList = ([97] : List UInt8) then (if bt128.2.1.toList = ([47,117] : List UInt8) then (if bt128.2.2.2 = 8 then (if bt133.2.2.1.toList = ([116] : List UInt8) then (if bt133.2.2.2 = 12 then (if (bt138.1.length : Int) = 2 then (if bt138.2.toList = ([101] : List UInt8) then (if bt142.2.2.2 = true then (some (bt142.2.1.toList == ([98] : List UInt8))) else (none)) else (none)) else (none)) else (none)) else (none)) else (none)) else (none)) else (none)))))) = some r := h
  clear h
  replace H := Option.bind_eq_some_iff.mp H
  obtain ⟨⟨t128,t129,t130,t131⟩,A10,H⟩ := H
  replace H : ((refs_Take.f k (⟨#[91,97,93,58,32,47,117,32,39,116,39,10,120]⟩ : ByteArray)).bind fun bt133 => ((refs_All.f k (⟨#[91,65,93,58,32,98,10,91,99,93,58,32,100,10,101]⟩ : ByteArray)).bind fun bt138 => ((refs_Find.f bt138.1 (⟨#[32,97,32]⟩ : ByteArray)).bind fun bt142 => (if t128.toList = ([97] : List UInt8) then (if t129.toList = ([47,117] : List UInt8) then (if t131 = 8 then (if bt133.2.2.1.toList = ([116] : List UInt8) then (if bt133.2.2.2 = 12 then (if (bt138.1.length : Int) = 2 then (if bt138.2.toList = ([101] : List UInt8) then (if bt142.2.2.2 = true then (some (bt142.2.1.toList == ([98] : List UInt8))) else (none)) else (none)) else (none)) else (none)) else (none)) else (none)) else (none)) else (none))))) = some r := H
  have A1 := Aside0.mk A10
  clear A10
  replace H := Option.bind_eq_some_iff.mp H
  obtain ⟨⟨t133,t134,t135,t136⟩,A20,H⟩ := H
  replace H : ((refs_All.f k (⟨#[91,65,93,58,32,98,10,91,99,93,58,32,100,10,101]⟩ : ByteArray)).bind fun bt138 => ((refs_Find.f bt138.1 (⟨#[32,97,32]⟩ : ByteArray)).bind fun bt142 => (if t128.toList = ([97] : List UInt8) then (if t129.toList = ([47,117] : List UInt8) then (if t131 = 8 then (if t135.toList = ([116] : List UInt8) then (if t136 = 12 then (if (bt138.1.length : Int) = 2 then (if bt138.2.toList = ([101] : List UInt8) then (if bt142.2.2.2 = true then (some (bt142.2.1.toList == ([98] : List UInt8))) else (none)) else (none)) else (none)) else (none)) else (none)) else (none)) else (none)) else (none)))) = some r := H
  have A2 := Aside0.mk A20
  clear A20
  replace H := Option.bind_eq_some_iff.mp H
  obtain ⟨⟨t138,t139⟩,A30,H⟩ := H
  replace H : ((refs_Find.f t138 (⟨#[32,97,32]⟩ : ByteArray)).bind fun bt142 => (if t128.toList = ([97] : List UInt8) then (if t129.toList = ([47,117] : List UInt8) then (if t131 = 8 then (if t135.toList = ([116] : List UInt8) then (if t136 = 12 then (if (t138.length : Int) = 2 then (if t139.toList = ([101] : List UInt8) then (if bt142.2.2.2 = true then (some (bt142.2.1.toList == ([98] : List UInt8))) else (none)) else (none)) else (none)) else (none)) else (none)) else (none)) else (none)) else (none))) = some r := H
  have A3 := Aside0.mk A30
  clear A30
  replace H := Option.bind_eq_some_iff.mp H
  obtain ⟨⟨t142,t143,t144,t145⟩,A40,H⟩ := H
  replace H : (if t128.toList = ([97] : List UInt8) then (if t129.toList = ([47,117] : List UInt8) then (if t131 = 8 then (if t135.toList = ([116] : List UInt8) then (if t136 = 12 then (if (t138.length : Int) = 2 then (if t139.toList = ([101] : List UInt8) then (if t145 = true then (some (t143.toList == ([98] : List UInt8))) else (none)) else (none)) else (none)) else (none)) else (none)) else (none)) else (none)) else (none)) = some r := H
  have A4 := Aside0.mk A40
  clear A40
  by_cases c5 : t128.toList = ([97] : List UInt8)
  · rw [if_pos c5] at H
    have c5b0 : (t128.toList == ([97] : List UInt8)) = true := beq_iff_eq.mpr c5
    have c5b1 : (t128.toList != ([97] : List UInt8)) = false := bne_eq_false_iff_eq.mpr c5
    clear c5
    by_cases c6 : t129.toList = ([47,117] : List UInt8)
    · rw [if_pos c6] at H
      have c6b0 : (t129.toList == ([47,117] : List UInt8)) = true := beq_iff_eq.mpr c6
      have c6b1 : (t129.toList != ([47,117] : List UInt8)) = false := bne_eq_false_iff_eq.mpr c6
      clear c6
      by_cases c7 : t131 = 8
      · rw [if_pos c7] at H
        have c7b0 : (t131 == 8) = true := beq_iff_eq.mpr c7
        have c7b1 : (t131 != 8) = false := bne_eq_false_iff_eq.mpr c7
        clear c7
        by_cases c8 : t135.toList = ([116] : List UInt8)
        · rw [if_pos c8] at H
          have c8b0 : (t135.toList == ([116] : List UInt8)) = true := beq_iff_eq.mpr c8
          have c8b1 : (t135.toList != ([116] : List UInt8)) = false := bne_eq_false_iff_eq.mpr c8
          clear c8
          by_cases c9 : t136 = 12
          · rw [if_pos c9] at H
            have c9b0 : (t136 == 12) = true := beq_iff_eq.mpr c9
            have c9b1 : (t136 != 12) = false := bne_eq_false_iff_eq.mpr c9
            clear c9
            by_cases c10 : (t138.length : Int) = 2
            · rw [if_pos c10] at H
              have c10b0 : ((t138.length : Int) == 2) = true := beq_iff_eq.mpr c10
              have c10b1 : ((t138.length : Int) != 2) = false := bne_eq_false_iff_eq.mpr c10
              clear c10
              by_cases c11 : t139.toList = ([101] : List UInt8)
              · rw [if_pos c11] at H
                have c11b0 : (t139.toList == ([101] : List UInt8)) = true := beq_iff_eq.mpr c11
                have c11b1 : (t139.toList != ([101] : List UInt8)) = false := bne_eq_false_iff_eq.mpr c11
                clear c11
                by_cases c12 : t145 = true
                · subst c12
                  have H1 : (some (t143.toList == ([98] : List UInt8))) = some r := by rw [if_pos rfl] at H;exact H
                  clear H
                  have H := H1
                  clear H1
                  obtain rfl := Option.some.inj H
                  go_enter Tryz.func8,Tryz.ntmps8
                  go_wp2_with (first | ((with_reducible refine gate_callee (f := 15) rfl ?_);refine goesL_ (some 10) rfl rfl Tryz.func15 (by kernel_rfl) rfl #[.string (⟨#[91,97,93,58,32,47,117,10,120]⟩ : ByteArray)] rfl (by (try simp only [List.map_toArray,List.map_cons,List.map_nil]);first | done | rfl | (simp only [List.length_drop,List.length_take];rfl)) ?_;(with_reducible refine (refs_Take.calls k (⟨#[91,97,93,58,32,47,117,10,120]⟩ : ByteArray) t128 t129 t130 t131 _ ?side1 A1.out).mono ?_);(case side1 => exact Laid.go hLd (by repeat (first | (with_reducible first | exact HB.out | apply below_alloc | apply pw_below_drewN | apply below_drew1) | exact HB.out)));rintro e w13 ⟨rfl,hb⟩;refine ⟨_,rfl,?_⟩;have n0_ := Aside0.mk (below_step (by repeat (first | (with_reducible first | exact HB.out | apply below_alloc | apply pw_below_drewN | apply below_drew1) | exact HB.out)) hb);clear HB;have HB := n0_;clear n0_;(try clear hb);(try clear hb2);(try clear hk);(try clear hi)) | ((with_reducible refine gate_dst (N := 1) rfl ?_);(try (refine gate_guard (by rfl) ?_;dsimp only));refine box_event ?hg (N := 1) ?hd (cs := #[.string (⟨#[]⟩ : ByteArray),.string (⟨#[]⟩ : ByteArray),.string (⟨#[]⟩ : ByteArray)]) (t := 26) ?hr ?_;(case hd => rfl);(case hg => rfl);(case hr => first | (go_simp;done) | (go_simp;rfl));intro gb132 hg w14 hbox hb;have n0_ := Aside0.mk (below_step (by repeat (first | (with_reducible first | exact HB.out | apply below_alloc | apply pw_below_drewN | apply below_drew1) | exact HB.out)) hb);have n1_ := Aside0.mk (hbox);have n2_ := Aside0.mk ((by rw [hg];exact (below_size (by repeat (first | (with_reducible first | exact HB.out | apply below_alloc | apply pw_below_drewN | apply below_drew1) | exact HB.out))) : w.heap.size ≤ gb132));have n3_ := Aside0.mk ((by rw [hg];exact (below_size (by repeat (first | (with_reducible first | exact HB.out | apply below_alloc | apply pw_below_drewN | apply below_drew1) | exact HB.out))) : w.heap.size ≤ gb132));clear HB;have HB := n0_;have BK132 := n1_;have GW132 := n2_;have GE132 := n3_;clear n0_ n1_ n2_ n3_;clear hb hbox hg;have hcz15_0 : w14.cell? ⟨gb132,0,none⟩ = some (.string (⟨#[]⟩ : ByteArray)) := (blk_cell BK132.out 0).trans rfl;have hcz15_1 : w14.cell? ⟨gb132,1,none⟩ = some (.string (⟨#[]⟩ : ByteArray)) := (blk_cell BK132.out 1).trans rfl;have hcz15_2 : w14.cell? ⟨gb132,2,none⟩ = some (.string (⟨#[]⟩ : ByteArray)) := (blk_cell BK132.out 2).trans rfl;have hfz15_0 := blk_frozen BK132.out 0;have hfz15_1 := blk_frozen BK132.out 1;have hfz15_2 := blk_frozen BK132.out 2) | ((with_reducible refine gate_callee (f := 15) rfl ?_);refine goesL_ (some 14) rfl rfl Tryz.func15 (by kernel_rfl) rfl #[.string (⟨#[91,97,93,58,32,47,117,32,39,116,39,10,120]⟩ : ByteArray)] rfl (by (try simp only [List.map_toArray,List.map_cons,List.map_nil]);first | done | rfl | (simp only [List.length_drop,List.length_take];rfl)) ?_;(with_reducible refine (refs_Take.calls k (⟨#[91,97,93,58,32,47,117,32,39,116,39,10,120]⟩ : ByteArray) t133 t134 t135 t136 _ ?side1 A2.out).mono ?_);(case side1 => exact Laid.go hLd (by repeat (first | (with_reducible first | exact HB.out | apply below_alloc | apply pw_below_drewN | apply below_drew1 | refine below_set ?_ GE132.out) | exact HB.out)));rintro e w16 ⟨rfl,hb⟩;refine ⟨_,rfl,?_⟩;have n0_ := Aside0.mk (blk_below (g := gb132) (o := .cells #[.string t128,.string t129,.string t130] 26 (0,0)) (by (with_reducible repeat (first | refine blk_drewN ?_ _ | refine blk_drew ?_ | refine blk_alloc ?_ _));refine blk_put (cs := #[.string t128,.string t129,.string (⟨#[]⟩ : ByteArray)]) ?_ 2 _ rfl;(with_reducible repeat (first | refine blk_drewN ?_ _ | refine blk_drew ?_ | refine blk_alloc ?_ _));refine blk_put (cs := #[.string t128,.string (⟨#[]⟩ : ByteArray),.string (⟨#[]⟩ : ByteArray)]) ?_ 1 _ rfl;(with_reducible repeat (first | refine blk_drewN ?_ _ | refine blk_drew ?_ | refine blk_alloc ?_ _));refine blk_put (cs := #[.string (⟨#[]⟩ : ByteArray),.string (⟨#[]⟩ : ByteArray),.string (⟨#[]⟩ : ByteArray)]) ?_ 0 _ rfl;(with_reducible repeat (first | refine blk_drewN ?_ _ | refine blk_drew ?_ | refine blk_alloc ?_ _));exact BK132.out) hb);have n1_ := Aside0.mk (below_step (by repeat (first | (with_reducible first | exact HB.out | apply below_alloc | apply pw_below_drewN | apply below_drew1 | refine below_set ?_ GE132.out) | exact HB.out)) hb);clear BK132;clear HB;have BK132 := n0_;have HB := n1_;clear n0_ n1_;(try clear hb);(try clear hb2);(try clear hk);(try clear hi)) | ((with_reducible refine gate_dst (N := 3) rfl ?_);(try (refine gate_guard (by rfl) ?_;dsimp only));refine box_event ?hg (N := 3) ?hd (cs := #[.string (⟨#[]⟩ : ByteArray),.string (⟨#[]⟩ : ByteArray),.string (⟨#[]⟩ : ByteArray)]) (t := 26) ?hr ?_;(case hd => rfl);(case hg => rfl);(case hr => first | (go_simp;done) | (go_simp;rfl));intro gb137 hg w17 hbox hb;have n0_ := Aside0.mk (blk_below (g := gb132) (o := .cells #[.string t128,.string t129,.string t130] 26 (0,0)) (by (with_reducible repeat (first | refine blk_drewN ?_ _ | refine blk_drew ?_ | refine blk_alloc ?_ _));exact BK132.out) hb);have n1_ := Aside0.mk (below_step (by repeat (first | (with_reducible first | exact HB.out | apply below_alloc | apply pw_below_drewN | apply below_drew1 | refine below_set ?_ GE132.out) | exact HB.out)) hb);have n2_ := Aside0.mk (hbox);have n3_ := Aside0.mk ((by rw [hg];exact (below_size (by repeat (first | (with_reducible first | exact HB.out | apply below_alloc | apply pw_below_drewN | apply below_drew1 | refine below_set ?_ GE132.out) | exact HB.out))) : w.heap.size ≤ gb137));have n4_ := Aside0.mk ((by rw [hg];exact (below_size (by repeat (first | (with_reducible first | exact HB.out | apply below_alloc | apply pw_below_drewN | apply below_drew1 | refine below_set ?_ GE132.out) | exact HB.out))) : w.heap.size ≤ gb137));have n5_ := Aside0.mk ((by rw [hg];exact Nat.ne_of_lt (blk_lt (g := gb132) (o := .cells #[.string t128,.string t129,.string t130] 26 (0,0)) (by (with_reducible repeat (first | refine blk_drewN ?_ _ | refine blk_drew ?_ | refine blk_alloc ?_ _));exact BK132.out)) : gb132 ≠ gb137));have n6_ := Aside0.mk ((by rw [hg];exact Nat.ne_of_gt (blk_lt (g := gb132) (o := .cells #[.string t128,.string t129,.string t130] 26 (0,0)) (by (with_reducible repeat (first | refine blk_drewN ?_ _ | refine blk_drew ?_ | refine blk_alloc ?_ _));exact BK132.out)) : gb137 ≠ gb132));clear BK132;clear HB;have BK132 := n0_;have HB := n1_;have BK137 := n2_;have GW137 := n3_;have GE137 := n4_;have NB132_137 := n5_;have NB137_132 := n6_;clear n0_ n1_ n2_ n3_ n4_ n5_ n6_;clear hb hbox hg;have hnb18 := NB137_132.out;have hnc18 := NB132_137.out;have hcz19_0 : w17.cell? ⟨gb137,0,none⟩ = some (.string (⟨#[]⟩ : ByteArray)) := (blk_cell BK137.out 0).trans rfl;have hcz19_1 : w17.cell? ⟨gb137,1,none⟩ = some (.string (⟨#[]⟩ : ByteArray)) := (blk_cell BK137.out 1).trans rfl;have hcz19_2 : w17.cell? ⟨gb137,2,none⟩ = some (.string (⟨#[]⟩ : ByteArray)) := (blk_cell BK137.out 2).trans rfl;have hfz19_0 := blk_frozen BK137.out 0;have hfz19_1 := blk_frozen BK137.out 1;have hfz19_2 := blk_frozen BK137.out 2) | ((with_reducible refine gate_callee (f := 17) rfl ?_);refine goesL_ (some 18) rfl rfl Tryz.func17 (by kernel_rfl) rfl #[.string (⟨#[91,65,93,58,32,98,10,91,99,93,58,32,100,10,101]⟩ : ByteArray)] rfl (by (try simp only [List.map_toArray,List.map_cons,List.map_nil]);first | done | rfl | (simp only [List.length_drop,List.length_take];rfl)) ?_;(with_reducible refine (refs_All.calls k (⟨#[91,65,93,58,32,98,10,91,99,93,58,32,100,10,101]⟩ : ByteArray) t138 t139 _ ?side1 A3.out).mono ?_);(case side1 => exact Laid.go hLd (by repeat (first | (with_reducible first | exact HB.out | apply below_alloc | apply pw_below_drewN | apply below_drew1 | refine below_set ?_ GE132.out | refine below_set ?_ GE137.out) | exact HB.out)));rintro e w20 ⟨v140,rfl,ho0,hb⟩;refine ⟨_,rfl,?_⟩;have n0_ := Aside0.mk (Kd.R_lower (Kd.R_newB (Kd.R_newB ho0 (g := gb132) (o := .cells #[.string t128,.string t129,.string t130] 26 (0,0)) (by (with_reducible repeat (first | refine blk_drewN ?_ _ | refine blk_drew ?_ | refine blk_alloc ?_ _));refine blk_far ?_ NB132_137.out _;(with_reducible repeat (first | refine blk_drewN ?_ _ | refine blk_drew ?_ | refine blk_alloc ?_ _));refine blk_far ?_ NB132_137.out _;(with_reducible repeat (first | refine blk_drewN ?_ _ | refine blk_drew ?_ | refine blk_alloc ?_ _));refine blk_far ?_ NB132_137.out _;(with_reducible repeat (first | refine blk_drewN ?_ _ | refine blk_drew ?_ | refine blk_alloc ?_ _));exact BK132.out)) (g := gb137) (o := .cells #[.string t133,.string t134,.string t135] 26 (0,0)) (by (with_reducible repeat (first | refine blk_drewN ?_ _ | refine blk_drew ?_ | refine blk_alloc ?_ _));refine blk_put (cs := #[.string t133,.string t134,.string (⟨#[]⟩ : ByteArray)]) ?_ 2 _ rfl;(with_reducible repeat (first | refine blk_drewN ?_ _ | refine blk_drew ?_ | refine blk_alloc ?_ _));refine blk_put (cs := #[.string t133,.string (⟨#[]⟩ : ByteArray),.string (⟨#[]⟩ : ByteArray)]) ?_ 1 _ rfl;(with_reducible repeat (first | refine blk_drewN ?_ _ | refine blk_drew ?_ | refine blk_alloc ?_ _));refine blk_put (cs := #[.string (⟨#[]⟩ : ByteArray),.string (⟨#[]⟩ : ByteArray),.string (⟨#[]⟩ : ByteArray)]) ?_ 0 _ rfl;(with_reducible repeat (first | refine blk_drewN ?_ _ | refine blk_drew ?_ | refine blk_alloc ?_ _));exact BK137.out)) (below_size (by repeat (first | (with_reducible first | exact HB.out | apply below_alloc | apply pw_below_drewN | apply below_drew1 | refine below_set ?_ GE132.out | refine below_set ?_ GE137.out) | exact HB.out))));have n1_ := Aside0.mk (blk_below (g := gb132) (o := .cells #[.string t128,.string t129,.string t130] 26 (0,0)) (by (with_reducible repeat (first | refine blk_drewN ?_ _ | refine blk_drew ?_ | refine blk_alloc ?_ _));refine blk_far ?_ NB132_137.out _;(with_reducible repeat (first | refine blk_drewN ?_ _ | refine blk_drew ?_ | refine blk_alloc ?_ _));refine blk_far ?_ NB132_137.out _;(with_reducible repeat (first | refine blk_drewN ?_ _ | refine blk_drew ?_ | refine blk_alloc ?_ _));refine blk_far ?_ NB132_137.out _;(with_reducible repeat (first | refine blk_drewN ?_ _ | refine blk_drew ?_ | refine blk_alloc ?_ _));exact BK132.out) hb);have n2_ := Aside0.mk (blk_below (g := gb137) (o := .cells #[.string t133,.string t134,.string t135] 26 (0,0)) (by (with_reducible repeat (first | refine blk_drewN ?_ _ | refine blk_drew ?_ | refine blk_alloc ?_ _));refine blk_put (cs := #[.string t133,.string t134,.string (⟨#[]⟩ : ByteArray)]) ?_ 2 _ rfl;(with_reducible repeat (first | refine blk_drewN ?_ _ | refine blk_drew ?_ | refine blk_alloc ?_ _));refine blk_put (cs := #[.string t133,.string (⟨#[]⟩ : ByteArray),.string (⟨#[]⟩ : ByteArray)]) ?_ 1 _ rfl;(with_reducible repeat (first | refine blk_drewN ?_ _ | refine blk_drew ?_ | refine blk_alloc ?_ _));refine blk_put (cs := #[.string (⟨#[]⟩ : ByteArray),.string (⟨#[]⟩ : ByteArray),.string (⟨#[]⟩ : ByteArray)]) ?_ 0 _ rfl;(with_reducible repeat (first | refine blk_drewN ?_ _ | refine blk_drew ?_ | refine blk_alloc ?_ _));exact BK137.out) hb);have n3_ := Aside0.mk (below_step (by repeat (first | (with_reducible first | exact HB.out | apply below_alloc | apply pw_below_drewN | apply below_drew1 | refine below_set ?_ GE132.out | refine below_set ?_ GE137.out) | exact HB.out)) hb);clear BK132;clear BK137;clear HB;have HO141 := n0_;have BK132 := n1_;have BK137 := n2_;have HB := n3_;clear n0_ n1_ n2_ n3_;(try clear hb);(try clear hb2);(try clear hk);(try clear hi);(try clear ho0);obtain ⟨Ao21,co21,eo21⟩ := Kd.R_slice HO141.out;subst eo21) | ((with_reducible refine gate_callee (f := 10) rfl ?_);refine goesL_ (some 23) rfl rfl Tryz.func10 (by kernel_rfl) rfl #[.slice Ao21 t138.length co21,.string (⟨#[32,97,32]⟩ : ByteArray)] rfl (by (try simp only [List.map_toArray,List.map_cons,List.map_nil]);first | done | rfl | (simp only [List.length_drop,List.length_take];rfl)) ?_;(with_reducible refine (refs_Find.calls _ _ t138 (⟨#[32,97,32]⟩ : ByteArray) t142 t143 t144 true _ ?side1 ?side2 ?side3 A4.out).mono ?_);(case side1 => exact Laid.go hLd (by repeat (first | (with_reducible first | exact HB.out | apply below_alloc | apply pw_below_drewN | apply below_drew1 | refine below_set ?_ GE132.out | refine below_set ?_ GE137.out) | exact HB.out)));(case side2 => repeat (first | exact (Kd.R_reads' HO141.out).2.2 | (with_reducible refine Kd.C_alloc ?_ _) | (with_reducible refine Kd.C_drewN ?_ _) | (with_reducible refine Kd.C_drew ?_)));(case side3 => exact (Kd.R_reads' HO141.out).2.1);rintro e w22 ⟨rfl,hb⟩;refine ⟨_,rfl,?_⟩;have n0_ := Aside0.mk (Kd.R_below (by (with_reducible repeat (first | apply Kd.R_alloc | apply Kd.R_drewN | apply Kd.R_drew));exact HO141.out) hb);have n1_ := Aside0.mk (blk_below (g := gb132) (o := .cells #[.string t128,.string t129,.string t130] 26 (0,0)) (by (with_reducible repeat (first | refine blk_drewN ?_ _ | refine blk_drew ?_ | refine blk_alloc ?_ _));exact BK132.out) hb);have n2_ := Aside0.mk (blk_below (g := gb137) (o := .cells #[.string t133,.string t134,.string t135] 26 (0,0)) (by (with_reducible repeat (first | refine blk_drewN ?_ _ | refine blk_drew ?_ | refine blk_alloc ?_ _));exact BK137.out) hb);have n3_ := Aside0.mk (below_step (by repeat (first | (with_reducible first | exact HB.out | apply below_alloc | apply pw_below_drewN | apply below_drew1 | refine below_set ?_ GE132.out | refine below_set ?_ GE137.out) | exact HB.out)) hb);clear HO141;clear BK132;clear BK137;clear HB;have HO141 := n0_;have BK132 := n1_;have BK137 := n2_;have HB := n3_;clear n0_ n1_ n2_ n3_;(try clear hb);(try clear hb2);(try clear hk);(try clear hi)) | ((with_reducible refine gate_dst (N := 7) rfl ?_);(try (refine gate_guard (by rfl) ?_;dsimp only));refine box_event ?hg (N := 7) ?hd (cs := #[.string (⟨#[]⟩ : ByteArray),.string (⟨#[]⟩ : ByteArray),.string (⟨#[]⟩ : ByteArray)]) (t := 26) ?hr ?_;(case hd => rfl);(case hg => rfl);(case hr => first | (go_simp;done) | (go_simp;rfl));intro gb146 hg w23 hbox hb;have n0_ := Aside0.mk (Kd.R_below (Kd.R_elderB (by (with_reducible repeat (first | apply Kd.R_alloc | apply Kd.R_drewN | apply Kd.R_drew));exact HO141.out) gb146 (Nat.le_of_eq hg.symm)) hb);have n1_ := Aside0.mk (blk_below (g := gb132) (o := .cells #[.string t128,.string t129,.string t130] 26 (0,0)) (by (with_reducible repeat (first | refine blk_drewN ?_ _ | refine blk_drew ?_ | refine blk_alloc ?_ _));exact BK132.out) hb);have n2_ := Aside0.mk (blk_below (g := gb137) (o := .cells #[.string t133,.string t134,.string t135] 26 (0,0)) (by (with_reducible repeat (first | refine blk_drewN ?_ _ | refine blk_drew ?_ | refine blk_alloc ?_ _));exact BK137.out) hb);have n3_ := Aside0.mk (below_step (by repeat (first | (with_reducible first | exact HB.out | apply below_alloc | apply pw_below_drewN | apply below_drew1 | refine below_set ?_ GE132.out | refine below_set ?_ GE137.out) | exact HB.out)) hb);have n4_ := Aside0.mk (hbox);have n5_ := Aside0.mk ((by rw [hg];exact (below_size (by repeat (first | (with_reducible first | exact HB.out | apply below_alloc | apply pw_below_drewN | apply below_drew1 | refine below_set ?_ GE132.out | refine below_set ?_ GE137.out) | exact HB.out))) : w.heap.size ≤ gb146));have n6_ := Aside0.mk ((by rw [hg];exact (below_size (by repeat (first | (with_reducible first | exact HB.out | apply below_alloc | apply pw_below_drewN | apply below_drew1 | refine below_set ?_ GE132.out | refine below_set ?_ GE137.out) | exact HB.out))) : w.heap.size ≤ gb146));have n7_ := Aside0.mk ((by rw [hg];exact Nat.ne_of_lt (blk_lt (g := gb132) (o := .cells #[.string t128,.string t129,.string t130] 26 (0,0)) (by (with_reducible repeat (first | refine blk_drewN ?_ _ | refine blk_drew ?_ | refine blk_alloc ?_ _));exact BK132.out)) : gb132 ≠ gb146));have n8_ := Aside0.mk ((by rw [hg];exact Nat.ne_of_gt (blk_lt (g := gb132) (o := .cells #[.string t128,.string t129,.string t130] 26 (0,0)) (by (with_reducible repeat (first | refine blk_drewN ?_ _ | refine blk_drew ?_ | refine blk_alloc ?_ _));exact BK132.out)) : gb146 ≠ gb132));have n9_ := Aside0.mk ((by rw [hg];exact Nat.ne_of_lt (blk_lt (g := gb137) (o := .cells #[.string t133,.string t134,.string t135] 26 (0,0)) (by (with_reducible repeat (first | refine blk_drewN ?_ _ | refine blk_drew ?_ | refine blk_alloc ?_ _));exact BK137.out)) : gb137 ≠ gb146));have n10_ := Aside0.mk ((by rw [hg];exact Nat.ne_of_gt (blk_lt (g := gb137) (o := .cells #[.string t133,.string t134,.string t135] 26 (0,0)) (by (with_reducible repeat (first | refine blk_drewN ?_ _ | refine blk_drew ?_ | refine blk_alloc ?_ _));exact BK137.out)) : gb146 ≠ gb137));clear HO141;clear BK132;clear BK137;clear HB;have HO141 := n0_;have BK132 := n1_;have BK137 := n2_;have HB := n3_;have BK146 := n4_;have GW146 := n5_;have GE146 := n6_;have NB132_146 := n7_;have NB146_132 := n8_;have NB137_146 := n9_;have NB146_137 := n10_;clear n0_ n1_ n2_ n3_ n4_ n5_ n6_ n7_ n8_ n9_ n10_;clear hb hbox hg;have hnb24 := NB146_132.out;have hnc24 := NB132_146.out;have hnb25 := NB146_137.out;have hnc25 := NB137_146.out;have hcz26_0 : w23.cell? ⟨gb146,0,none⟩ = some (.string (⟨#[]⟩ : ByteArray)) := (blk_cell BK146.out 0).trans rfl;have hcz26_1 : w23.cell? ⟨gb146,1,none⟩ = some (.string (⟨#[]⟩ : ByteArray)) := (blk_cell BK146.out 1).trans rfl;have hcz26_2 : w23.cell? ⟨gb146,2,none⟩ = some (.string (⟨#[]⟩ : ByteArray)) := (blk_cell BK146.out 2).trans rfl;have hfz26_0 := blk_frozen BK146.out 0;have hfz26_1 := blk_frozen BK146.out 1;have hfz26_2 := blk_frozen BK146.out 2;have hcz27_0 : w23.cell? ⟨gb132,0,none⟩ = some (.string t128) := (blk_cell BK132.out 0).trans rfl;have hcz27_1 : w23.cell? ⟨gb132,1,none⟩ = some (.string t129) := (blk_cell BK132.out 1).trans rfl;have hcz27_2 : w23.cell? ⟨gb132,2,none⟩ = some (.string t130) := (blk_cell BK132.out 2).trans rfl;have hfz27_0 := blk_frozen BK132.out 0;have hfz27_1 := blk_frozen BK132.out 1;have hfz27_2 := blk_frozen BK132.out 2;have hcz28_0 : w23.cell? ⟨gb137,0,none⟩ = some (.string t133) := (blk_cell BK137.out 0).trans rfl;have hcz28_1 : w23.cell? ⟨gb137,1,none⟩ = some (.string t134) := (blk_cell BK137.out 1).trans rfl;have hcz28_2 : w23.cell? ⟨gb137,2,none⟩ = some (.string t135) := (blk_cell BK137.out 2).trans rfl;have hfz28_0 := blk_frozen BK137.out 0;have hfz28_1 := blk_frozen BK137.out 1;have hfz28_2 := blk_frozen BK137.out 2))
                  go_ret
                  exact ⟨by first | rfl | exact retNe _ | (simp [errW_none,errW_some] <;> rfl) | (simp [*,errW_none,errW_some] <;> rfl),by repeat (first | (with_reducible first | exact HB.out | apply below_alloc | apply pw_below_drewN | apply below_drew1 | refine below_set ?_ GE132.out | refine below_set ?_ GE137.out | refine below_set ?_ GE146.out) | exact HB.out)⟩
                · replace c12 := Bool.eq_false_iff.mpr c12
                  subst c12
                  have H1 : (none) = some r := by rw [if_neg (show ¬ (false = true) by decide)] at H;exact H
                  cases H1
              · rw [if_neg c11] at H
                cases H
            · rw [if_neg c10] at H
              cases H
          · rw [if_neg c9] at H
            cases H
        · rw [if_neg c8] at H
          cases H
      · rw [if_neg c7] at H
        cases H
    · rw [if_neg c6] at H
      cases H
  · rw [if_neg c5] at H
    cases H
/-! ### incipitlaw10_few: function 9 -/

end Go.Proofs.YtekifcbokdidlaaGreatDoor.PA

namespace Go.Proofs.YtekifcbokdidlaaGreatDoor.Pure
open Go.RowKit Go.Proofs.YtekifcbokdidlaaGreatDoorW.PrintWords Go.Proofs.YtekifcbokdidlaaGreatDoorW.PrintMore Go.Proofs.YtekifcbokdidlaaGreatDoor.Pl Go.Proofs.YtekifcbokdidlaaGreatDoor.PA

theorem awake_at : incipitlaw10_awake.f 8 = some true := by decide +kernel
theorem awake_ev : Ev (fun k => incipitlaw10_awake.f k) true := Ev.of incipitlaw10_awake.mono awake_at
end Go.Proofs.YtekifcbokdidlaaGreatDoor.Pure

namespace Go.Proofs.YtekifcbokdidlaaGreatDoor.PA
open Go.RowKit Go.Shelf Go.Proofs.YtekifcbokdidlaaGreatDoor.Pl Go.Proofs.YtekifcbokdidlaaGreatDoorW.PrintWords Go.Proofs.YtekifcbokdidlaaGreatDoorW.PrintLast Go.Proofs.YtekifcbokdidlaaGreatDoorW.PrintMore
set_option linter.unusedVariables false

end Go.Proofs.YtekifcbokdidlaaGreatDoor.PA
