/-
  Texts of the proof of RefsTakes, part 5 of 9: contracts and plain laws. Conditions: see each statement.
-/
import Derived.Test.YtekifcbokdidlaaGreatDoorSRefsTakes1
import Derived.Test.YtekifcbokdidlaaGreatDoorSRefsTakes2
import Derived.Test.YtekifcbokdidlaaGreatDoorSRefsTakes3
import Derived.WalkKit
import Derived.BigCall
import Derived.Lib.Hide
import Derived.Test.YtekifcbokdidlaaGreatDoorSRefsTakes4
set_option linter.unusedVariables false
namespace Go.Proofs.YtekifcbokdidlaaGreatDoor.PA
open Go.RowKit Go.Proofs.YtekifcbokdidlaaGreatDoorW.PrintWords Go.Proofs.YtekifcbokdidlaaGreatDoorW.PrintLast Go.Proofs.YtekifcbokdidlaaGreatDoorW.PrintMore
attribute [local go_sem] max2_int min2_int max_two min_two max_three min_three max_four min_four   -- for this text's walks alone
set_option linter.unusedVariables false
set_option linter.unusedSimpArgs false

/-! ### incipitref01_between: function 111 -/
def incipitref01_between.f (l0 : List Int) (a1 : Int) (a2 : Int) (a3 : Int) : Option (Bool) := if a1 < (l0.length : Int) then (if 0 ≤ a1 then (if (rd l0 a1) ≥ a2 then (some (decide ((rd l0 a1) ≤ a3))) else (some false)) else (none)) else (some false)
set_option maxHeartbeats 8000000 in
set_option maxRecDepth 100000 in
theorem incipitref01_between.calls (A0 : Option Addr) (c0 : Nat) (l0 : List Int) (a1 : Int) (a2 : Int) (a3 : Int) (r : Bool) (w : World) (hr0 : Kd.C (Kd.int .u8) w A0 l0.length l0) (hc0 : l0.length ≤ c0) (h : incipitref01_between.f l0 a1 a2 a3 = some r) :
  Calls Tryz.prog 111 #[.slice A0 l0.length c0,.int .i64 a1,.int .u8 a2,.int .u8 a3] w fun e w' => e = .returned (.bool r) ∧ Drawn0 w w' := by
 have HR0 := Aside0.mk hr0
 have HC0 := Aside0.mk hc0
 clear hr0 hc0
 have H : (if a1 < (l0.length : Int) then (if 0 ≤ a1 then (if (rd l0 a1) ≥ a2 then (some (decide ((rd l0 a1) ≤ a3))) else (some false)) else (none)) else (some false)) = some r := h
 clear h
 by_cases c5 : a1 < (l0.length : Int)
 ·rw [if_pos c5] at H
  have c5b0 : decide (a1 < (l0.length : Int)) = true := decide_eq_true c5
  clear c5
  by_cases c6 : 0 ≤ a1
  ·rw [if_pos c6] at H
   have c6b0 : decide (0 ≤ a1) = true := decide_eq_true c6
   clear c6
   by_cases c7 : (rd l0 a1) ≥ a2
   ·rw [if_pos c7] at H
    have c7b0 : decide (a2 ≤ (rd l0 a1)) = true := decide_eq_true c7
    clear c7
    obtain rfl := Option.some.inj H
    have p199 : 0 ≤ (a1 : Int) := of_decide_eq_true (by first | (with_reducible assumption) | assumption)
    have q199 : a1 < (l0.length : Int) := of_decide_eq_true (by first | (with_reducible assumption) | assumption)
    obtain ⟨ad199,e199,hx199_0⟩ := Kd.at_int HR0.out a1 p199 q199
    cases e199
    replace p199 := eq_true p199
    replace q199 := eq_true q199
    have p200 : 0 ≤ (a1 : Int) := of_decide_eq_true (by first | (with_reducible assumption) | assumption)
    have q200 : a1 < (l0.length : Int) := of_decide_eq_true (by first | (with_reducible assumption) | assumption)
    obtain ⟨ad200,e200,hx200_0⟩ := Kd.at_int HR0.out a1 p200 q200
    obtain rfl : ad199 = ad200 := (by injection e200)
    replace p200 := eq_true p200
    replace q200 := eq_true q200
    go_enter Tryz.func111,Tryz.ntmps111
    go_wp2
    go_ret
    exact ⟨by first | rfl | (simp;done) | (simp [*];done),by repeat (first | exact Drawn0.refl _ | apply Drawn0.step)⟩
   ·rw [if_neg c7] at H
    have c7b0 : decide (a2 ≤ (rd l0 a1)) = false := decide_eq_false c7
    clear c7
    obtain rfl := Option.some.inj H
    have p199 : 0 ≤ (a1 : Int) := of_decide_eq_true (by first | (with_reducible assumption) | assumption)
    have q199 : a1 < (l0.length : Int) := of_decide_eq_true (by first | (with_reducible assumption) | assumption)
    obtain ⟨ad199,e199,hx199_0⟩ := Kd.at_int HR0.out a1 p199 q199
    cases e199
    replace p199 := eq_true p199
    replace q199 := eq_true q199
    go_enter Tryz.func111,Tryz.ntmps111
    go_wp2
    go_ret
    exact ⟨by first | rfl | (simp;done) | (simp [*];done),by repeat (first | exact Drawn0.refl _ | apply Drawn0.step)⟩
  ·rw [if_neg c6] at H
   exact absurd H (by simp)
 ·rw [if_neg c5] at H
  have c5b0 : decide (a1 < (l0.length : Int)) = false := decide_eq_false c5
  clear c5
  obtain rfl := Option.some.inj H
  go_enter Tryz.func111,Tryz.ntmps111
  go_wp2
  go_ret
  exact ⟨by first | rfl | (simp;done) | (simp [*];done),by repeat (first | exact Drawn0.refl _ | apply Drawn0.step)⟩

end Go.Proofs.YtekifcbokdidlaaGreatDoor.PA
namespace Go.Proofs.YtekifcbokdidlaaGreatDoor.PA
open Go.RowKit Go.Proofs.YtekifcbokdidlaaGreatDoorW.PrintWords Go.Proofs.YtekifcbokdidlaaGreatDoorW.PrintLast Go.Proofs.YtekifcbokdidlaaGreatDoorW.PrintMore
attribute [local go_sem] max2_int min2_int max_two min_two max_three min_three max_four min_four   -- for this text's walks alone
set_option linter.unusedVariables false
set_option linter.unusedSimpArgs false

/-! ### incipitref01_good: function 94 -/
mutual
def incipitref01_good.j0 : Nat → List Int → Bool → Option (Int)
 | 0,_,_ => none
 | k + 1,x0,x6 => if x6 = true then (some 2) else ((incipitref01_between.f x0 2 128 191).bind fun t204 => (if t204 = true then ((incipitref01_between.f x0 0 224 224).bind fun t205 => (if t205 = true then ((incipitref01_between.f x0 1 160 191).bind fun t206 => (incipitref01_good.j1 k x0 t206)) else (incipitref01_good.j1 k x0 false))) else (some 0)))
def incipitref01_good.j1 : Nat → List Int → Bool → Option (Int)
 | 0,_,_ => none
 | k + 1,x0,x17 => if x17 = true then (incipitref01_good.j2 k x0 x17) else ((incipitref01_between.f x0 0 237 237).bind fun t207 => (if t207 = true then ((incipitref01_between.f x0 1 128 159).bind fun t208 => (incipitref01_good.j2 k x0 t208)) else (incipitref01_good.j2 k x0 false)))
def incipitref01_good.j2 : Nat → List Int → Bool → Option (Int)
 | 0,_,_ => none
 | k + 1,x0,x17 => if x17 = true then (some 3) else ((incipitref01_between.f x0 0 225 236).bind fun t209 => (if t209 = true then ((incipitref01_between.f x0 1 128 191).bind fun t210 => (incipitref01_good.j3 k x0 t210)) else ((incipitref01_between.f x0 0 238 239).bind fun t211 => (if t211 = true then ((incipitref01_between.f x0 1 128 191).bind fun t212 => (incipitref01_good.j3 k x0 t212)) else (incipitref01_good.j3 k x0 false)))))
def incipitref01_good.j3 : Nat → List Int → Bool → Option (Int)
 | 0,_,_ => none
 | k + 1,x0,x30 => if x30 = true then (some 3) else ((incipitref01_between.f x0 3 128 191).bind fun t213 => (if t213 = true then ((incipitref01_between.f x0 0 240 240).bind fun t214 => (if t214 = true then ((incipitref01_between.f x0 1 144 191).bind fun t215 => (incipitref01_good.j4 k x0 t215)) else (incipitref01_good.j4 k x0 false))) else (some 0)))
def incipitref01_good.j4 : Nat → List Int → Bool → Option (Int)
 | 0,_,_ => none
 | k + 1,x0,x45 => if x45 = true then (some 4) else ((incipitref01_between.f x0 0 241 243).bind fun t216 => (if t216 = true then ((incipitref01_between.f x0 1 128 191).bind fun t217 => (incipitref01_good.j5 k x0 t217)) else (incipitref01_good.j5 k x0 false)))
def incipitref01_good.j5 : Nat → List Int → Bool → Option (Int)
 | 0,_,_ => none
 | k + 1,x0,x45 => if x45 = true then (some 4) else ((incipitref01_between.f x0 0 244 244).bind fun t218 => (if t218 = true then ((incipitref01_between.f x0 1 128 143).bind fun t219 => (if t219 = true then (some 4) else (some 0))) else (some 0)))
end
def incipitref01_good.f (k : Nat) (l0 : List Int) : Option (Int) := (incipitref01_between.f l0 0 0 127).bind fun t201 => (if t201 = true then (some 1) else ((incipitref01_between.f l0 0 194 223).bind fun t202 => (if t202 = true then ((incipitref01_between.f l0 1 128 191).bind fun t203 => (incipitref01_good.j0 k l0 t203)) else (incipitref01_good.j0 k l0 false))))
set_option maxHeartbeats 8000000 in
set_option maxRecDepth 100000 in
theorem incipitref01_good.calls (k : Nat) (A0 : Option Addr) (c0 : Nat) (l0 : List Int) (r : Int) (w : World) (hr0 : Kd.C (Kd.int .u8) w A0 l0.length l0) (hc0 : l0.length ≤ c0) (h : incipitref01_good.f k l0 = some r) :
  Calls Tryz.prog 94 #[.slice A0 l0.length c0] w fun e w' => e = .returned (.int .i64 r) ∧ Drawn0 w w' := by
 have HR0 := Aside0.mk hr0
 have HC0 := Aside0.mk hc0
 clear hr0 hc0
 have H : ((incipitref01_between.f l0 0 0 127).bind fun t201 => (if t201 = true then (some 1) else ((incipitref01_between.f l0 0 194 223).bind fun t202 => (if t202 = true then ((incipitref01_between.f l0 1 128 191).bind fun t203 => (incipitref01_good.j0 k l0 t203)) else (incipitref01_good.j0 k l0 false))))) = some r := h
 clear h
 replace H := Option.bind_eq_some_iff.mp H
 obtain ⟨t201,A20,H⟩ := H
 (try dsimp only at H)
 have A2 := Aside0.mk A20
 clear A20
 by_cases c3 : t201 = true
 ·subst c3
  have H1 : (some 1) = some r := by rw [if_pos rfl] at H;exact H
  clear H
  have H := H1
  clear H1
  obtain rfl := Option.some.inj H
  go_enter Tryz.func94,Tryz.ntmps94
  go_wp2_with (first | ((with_reducible refine gate_callee (f := 111) rfl ?_);refine goesL_ (some 5) rfl rfl Tryz.func111 (by kernel_rfl) rfl #[.slice A0 l0.length c0,.int .i64 0,.int .u8 0,.int .u8 127] rfl (by (try simp only [List.map_toArray,List.map_cons,List.map_nil]);try rfl) ?_;(with_reducible refine (incipitref01_between.calls _ _ l0 0 0 127 true _ ?side1 ?side2 A2.out).mono ?_);(case side1 => repeat (first | exact HR0.out | (with_reducible refine Kd.C_alloc ?_ _) | (with_reducible refine Kd.C_drewN ?_ _) | (with_reducible refine Kd.C_drew ?_)));(case side2 => exact HC0.out);rintro e w' ⟨rfl,⟨nd,rfl⟩⟩;refine ⟨_,rfl,?_⟩))
  go_ret
  exact ⟨by first | rfl | (simp;done) | (simp [*];done),by repeat (first | exact Drawn0.refl _ | apply Drawn0.step)⟩
 ·replace c3 := Bool.eq_false_iff.mpr c3
  subst c3
  have H1 : ((incipitref01_between.f l0 0 194 223).bind fun t202 => (if t202 = true then ((incipitref01_between.f l0 1 128 191).bind fun t203 => (incipitref01_good.j0 k l0 t203)) else (incipitref01_good.j0 k l0 false))) = some r := by rw [if_neg (show ¬ (false = true) by decide)] at H;exact H
  clear H
  have H := H1
  clear H1
  have HC4 := Aside0.mk H
  clear H
  go_enter Tryz.func94,Tryz.ntmps94
  go_upto_region 3 with (first | ((with_reducible refine gate_callee (f := 111) rfl ?_);refine goesL_ (some 5) rfl rfl Tryz.func111 (by kernel_rfl) rfl #[.slice A0 l0.length c0,.int .i64 0,.int .u8 0,.int .u8 127] rfl (by (try simp only [List.map_toArray,List.map_cons,List.map_nil]);try rfl) ?_;(with_reducible refine (incipitref01_between.calls _ _ l0 0 0 127 false _ ?side1 ?side2 A2.out).mono ?_);(case side1 => repeat (first | exact HR0.out | (with_reducible refine Kd.C_alloc ?_ _) | (with_reducible refine Kd.C_drewN ?_ _) | (with_reducible refine Kd.C_drew ?_)));(case side2 => exact HC0.out);rintro e w' ⟨rfl,⟨nd,rfl⟩⟩;refine ⟨_,rfl,?_⟩))
  (try simp only [Act.put,List.setIfInBounds_toArray,List.set_cons_zero,List.set_cons_succ])
  go_cut [6] (fun v6 wc => ∃ (kq : Nat) (x6_3 : Bool),v6 = .bool x6_3 ∧ Aside0 (incipitref01_good.j0 kq l0 x6_3 = some r) ∧ Aside0 (kq ≤ k) ∧ Drawn0 w wc)
  case first =>
   have H := HC4.out
   clear HC4
   replace H := Option.bind_eq_some_iff.mp H
   obtain ⟨t202,A50,H⟩ := H
   (try dsimp only at H)
   have A5 := Aside0.mk A50
   clear A50
   by_cases c6 : t202 = true
   ·subst c6
    have H1 : ((incipitref01_between.f l0 1 128 191).bind fun t203 => (incipitref01_good.j0 k l0 t203)) = some r := by rw [if_pos rfl] at H;exact H
    clear H
    have H := H1
    clear H1
    replace H := Option.bind_eq_some_iff.mp H
    obtain ⟨t203,A70,H⟩ := H
    (try dsimp only at H)
    have A7 := Aside0.mk A70
    clear A70
    have H' := Aside0.mk H
    clear H
    go_wp2_with (first | ((with_reducible refine gate_callee (f := 111) rfl ?_);refine goesL_ (some 8) rfl rfl Tryz.func111 (by kernel_rfl) rfl #[.slice A0 l0.length c0,.int .i64 0,.int .u8 194,.int .u8 223] rfl (by (try simp only [List.map_toArray,List.map_cons,List.map_nil]);try rfl) ?_;(with_reducible refine (incipitref01_between.calls _ _ l0 0 194 223 true _ ?side1 ?side2 A5.out).mono ?_);(case side1 => repeat (first | exact HR0.out | (with_reducible refine Kd.C_alloc ?_ _) | (with_reducible refine Kd.C_drewN ?_ _) | (with_reducible refine Kd.C_drew ?_)));(case side2 => exact HC0.out);rintro e w' ⟨rfl,⟨nd,rfl⟩⟩;refine ⟨_,rfl,?_⟩) | (go_at_call 111;(with_reducible refine (incipitref01_between.calls _ _ l0 1 128 191 t203 _ ?side1 ?side2 A7.out).mono ?_);(case side1 => repeat (first | exact HR0.out | (with_reducible refine Kd.C_alloc ?_ _) | (with_reducible refine Kd.C_drewN ?_ _) | (with_reducible refine Kd.C_drew ?_)));(case side2 => exact HC0.out);rintro e w' ⟨rfl,⟨nd,rfl⟩⟩))
    go_meet
    case rel => exact ⟨_,(t203),(by first | rfl | (simp;done) | (simp [*];done)),H',⟨by first | omega | exact Nat.le_refl _⟩,by repeat (first | exact Drawn0.refl _ | apply Drawn0.step)⟩
   ·replace c6 := Bool.eq_false_iff.mpr c6
    subst c6
    have H1 : (incipitref01_good.j0 k l0 false) = some r := by rw [if_neg (show ¬ (false = true) by decide)] at H;exact H
    clear H
    have H := H1
    clear H1
    have H' := Aside0.mk H
    clear H
    go_wp2_with (first | ((with_reducible refine gate_callee (f := 111) rfl ?_);refine goesL_ (some 8) rfl rfl Tryz.func111 (by kernel_rfl) rfl #[.slice A0 l0.length c0,.int .i64 0,.int .u8 194,.int .u8 223] rfl (by (try simp only [List.map_toArray,List.map_cons,List.map_nil]);try rfl) ?_;(with_reducible refine (incipitref01_between.calls _ _ l0 0 194 223 false _ ?side1 ?side2 A5.out).mono ?_);(case side1 => repeat (first | exact HR0.out | (with_reducible refine Kd.C_alloc ?_ _) | (with_reducible refine Kd.C_drewN ?_ _) | (with_reducible refine Kd.C_drew ?_)));(case side2 => exact HC0.out);rintro e w' ⟨rfl,⟨nd,rfl⟩⟩;refine ⟨_,rfl,?_⟩))
    go_meet
    case rel => exact ⟨_,(false),(by first | rfl | (simp;done) | (simp [*];done)),H',⟨by first | omega | exact Nat.le_refl _⟩,by repeat (first | exact Drawn0.refl _ | apply Drawn0.step)⟩
  case rest =>
   clear HC4
   try clear c1
   try clear p2
   try clear c3
   try clear c6
   obtain ⟨kq,x6_3,rfl,HA,HJ3,⟨mc3,rfl⟩⟩ := hcut
   cases kq with
   | zero => exact absurd HA.out (by simp [incipitref01_good.j0])
   | succ kj3 =>
    have H := HA.out
    clear HA
    simp only [incipitref01_good.j0] at H
    by_cases c8 : x6_3 = true
    ·subst c8
     have H1 : (some 2) = some r := by rw [if_pos rfl] at H;exact H
     clear H
     have H := H1
     clear H1
     obtain rfl := Option.some.inj H
     go_wp2
     go_ret
     exact ⟨by first | rfl | (simp;done) | (simp [*];done),by repeat (first | exact Drawn0.refl _ | apply Drawn0.step)⟩
    ·replace c8 := Bool.eq_false_iff.mpr c8
     subst c8
     have H1 : ((incipitref01_between.f l0 2 128 191).bind fun t204 => (if t204 = true then ((incipitref01_between.f l0 0 224 224).bind fun t205 => (if t205 = true then ((incipitref01_between.f l0 1 160 191).bind fun t206 => (incipitref01_good.j1 kj3 l0 t206)) else (incipitref01_good.j1 kj3 l0 false))) else (some 0))) = some r := by rw [if_neg (show ¬ (false = true) by decide)] at H;exact H
     clear H
     have H := H1
     clear H1
     replace H := Option.bind_eq_some_iff.mp H
     obtain ⟨t204,A90,H⟩ := H
     (try dsimp only at H)
     have A9 := Aside0.mk A90
     clear A90
     by_cases c10 : t204 = true
     ·subst c10
      have H1 : ((incipitref01_between.f l0 0 224 224).bind fun t205 => (if t205 = true then ((incipitref01_between.f l0 1 160 191).bind fun t206 => (incipitref01_good.j1 kj3 l0 t206)) else (incipitref01_good.j1 kj3 l0 false))) = some r := by rw [if_pos rfl] at H;exact H
      clear H
      have H := H1
      clear H1
      have HC11 := Aside0.mk H
      clear H
      go_upto_region 7 with (first | ((with_reducible refine gate_callee (f := 111) rfl ?_);refine goesL_ (some 15) rfl rfl Tryz.func111 (by kernel_rfl) rfl #[.slice A0 l0.length c0,.int .i64 2,.int .u8 128,.int .u8 191] rfl (by (try simp only [List.map_toArray,List.map_cons,List.map_nil]);try rfl) ?_;(with_reducible refine (incipitref01_between.calls _ _ l0 2 128 191 true _ ?side1 ?side2 A9.out).mono ?_);(case side1 => repeat (first | exact HR0.out | (with_reducible refine Kd.C_alloc ?_ _) | (with_reducible refine Kd.C_drewN ?_ _) | (with_reducible refine Kd.C_drew ?_)));(case side2 => exact HC0.out);rintro e w' ⟨rfl,⟨nd,rfl⟩⟩;refine ⟨_,rfl,?_⟩))
      (try simp only [Act.put,List.setIfInBounds_toArray,List.set_cons_zero,List.set_cons_succ])
      go_cut [17] (fun v17 wc => ∃ (kq : Nat) (x17_10 : Bool),v17 = .bool x17_10 ∧ Aside0 (incipitref01_good.j1 kq l0 x17_10 = some r) ∧ Aside0 (kq ≤ kj3) ∧ Drawn0 w wc)
      case first =>
       have H := HC11.out
       clear HC11
       replace H := Option.bind_eq_some_iff.mp H
       obtain ⟨t205,A120,H⟩ := H
       (try dsimp only at H)
       have A12 := Aside0.mk A120
       clear A120
       by_cases c13 : t205 = true
       ·subst c13
        have H1 : ((incipitref01_between.f l0 1 160 191).bind fun t206 => (incipitref01_good.j1 kj3 l0 t206)) = some r := by rw [if_pos rfl] at H;exact H
        clear H
        have H := H1
        clear H1
        replace H := Option.bind_eq_some_iff.mp H
        obtain ⟨t206,A140,H⟩ := H
        (try dsimp only at H)
        have A14 := Aside0.mk A140
        clear A140
        have H' := Aside0.mk H
        clear H
        go_wp2_with (first | ((with_reducible refine gate_callee (f := 111) rfl ?_);refine goesL_ (some 19) rfl rfl Tryz.func111 (by kernel_rfl) rfl #[.slice A0 l0.length c0,.int .i64 0,.int .u8 224,.int .u8 224] rfl (by (try simp only [List.map_toArray,List.map_cons,List.map_nil]);try rfl) ?_;(with_reducible refine (incipitref01_between.calls _ _ l0 0 224 224 true _ ?side1 ?side2 A12.out).mono ?_);(case side1 => repeat (first | exact HR0.out | (with_reducible refine Kd.C_alloc ?_ _) | (with_reducible refine Kd.C_drewN ?_ _) | (with_reducible refine Kd.C_drew ?_)));(case side2 => exact HC0.out);rintro e w' ⟨rfl,⟨nd,rfl⟩⟩;refine ⟨_,rfl,?_⟩) | (go_at_call 111;(with_reducible refine (incipitref01_between.calls _ _ l0 1 160 191 t206 _ ?side1 ?side2 A14.out).mono ?_);(case side1 => repeat (first | exact HR0.out | (with_reducible refine Kd.C_alloc ?_ _) | (with_reducible refine Kd.C_drewN ?_ _) | (with_reducible refine Kd.C_drew ?_)));(case side2 => exact HC0.out);rintro e w' ⟨rfl,⟨nd,rfl⟩⟩))
        go_meet
        case rel => exact ⟨_,(t206),(by first | rfl | (simp;done) | (simp [*];done)),H',⟨by have := HJ3.out;first | omega | exact Nat.le_refl _⟩,by repeat (first | exact Drawn0.refl _ | apply Drawn0.step)⟩
       ·replace c13 := Bool.eq_false_iff.mpr c13
        subst c13
        have H1 : (incipitref01_good.j1 kj3 l0 false) = some r := by rw [if_neg (show ¬ (false = true) by decide)] at H;exact H
        clear H
        have H := H1
        clear H1
        have H' := Aside0.mk H
        clear H
        go_wp2_with (first | ((with_reducible refine gate_callee (f := 111) rfl ?_);refine goesL_ (some 19) rfl rfl Tryz.func111 (by kernel_rfl) rfl #[.slice A0 l0.length c0,.int .i64 0,.int .u8 224,.int .u8 224] rfl (by (try simp only [List.map_toArray,List.map_cons,List.map_nil]);try rfl) ?_;(with_reducible refine (incipitref01_between.calls _ _ l0 0 224 224 false _ ?side1 ?side2 A12.out).mono ?_);(case side1 => repeat (first | exact HR0.out | (with_reducible refine Kd.C_alloc ?_ _) | (with_reducible refine Kd.C_drewN ?_ _) | (with_reducible refine Kd.C_drew ?_)));(case side2 => exact HC0.out);rintro e w' ⟨rfl,⟨nd,rfl⟩⟩;refine ⟨_,rfl,?_⟩))
        go_meet
        case rel => exact ⟨_,(false),(by first | rfl | (simp;done) | (simp [*];done)),H',⟨by have := HJ3.out;first | omega | exact Nat.le_refl _⟩,by repeat (first | exact Drawn0.refl _ | apply Drawn0.step)⟩
      case rest =>
       clear HC11
       try clear c1
       try clear p2
       try clear c3
       try clear c6
       try clear c8
       try clear c9
       try clear c10
       try clear c11
       try clear c13
       try clear p2
       obtain ⟨kq,x17_10,rfl,HA,HJ10,⟨mc10,rfl⟩⟩ := hcut
       cases kq with
       | zero => exact absurd HA.out (by simp [incipitref01_good.j1])
       | succ kj10 =>
        have H := HA.out
        clear HA
        simp only [incipitref01_good.j1] at H
        have HC15 := Aside0.mk H
        clear H
        go_upto_if 17 with (fail)
        go_cut [17] (fun v17 wc => ∃ (kq : Nat) (x17_14 : Bool),v17 = .bool x17_14 ∧ Aside0 (incipitref01_good.j2 kq l0 x17_14 = some r) ∧ Aside0 (kq ≤ kj10) ∧ Drawn0 w wc)
        case first =>
         have H := HC15.out
         clear HC15
         by_cases c16 : x17_10 = true
         ·subst c16
          have H1 : (incipitref01_good.j2 kj10 l0 true) = some r := by rw [if_pos rfl] at H;exact H
          clear H
          have H := H1
          clear H1
          have H' := Aside0.mk H
          clear H
          go_wp2
          go_meet
          case rel => exact ⟨_,(true),(by first | rfl | (simp;done) | (simp [*];done)),H',⟨by have := HJ3.out;have := HJ10.out;first | omega | exact Nat.le_refl _⟩,by repeat (first | exact Drawn0.refl _ | apply Drawn0.step)⟩
         ·replace c16 := Bool.eq_false_iff.mpr c16
          subst c16
          have H1 : ((incipitref01_between.f l0 0 237 237).bind fun t207 => (if t207 = true then ((incipitref01_between.f l0 1 128 159).bind fun t208 => (incipitref01_good.j2 kj10 l0 t208)) else (incipitref01_good.j2 kj10 l0 false))) = some r := by rw [if_neg (show ¬ (false = true) by decide)] at H;exact H
          clear H
          have H := H1
          clear H1
          replace H := Option.bind_eq_some_iff.mp H
          obtain ⟨t207,A170,H⟩ := H
          (try dsimp only at H)
          have A17 := Aside0.mk A170
          clear A170
          by_cases c18 : t207 = true
          ·subst c18
           have H1 : ((incipitref01_between.f l0 1 128 159).bind fun t208 => (incipitref01_good.j2 kj10 l0 t208)) = some r := by rw [if_pos rfl] at H;exact H
           clear H
           have H := H1
           clear H1
           replace H := Option.bind_eq_some_iff.mp H
           obtain ⟨t208,A190,H⟩ := H
           (try dsimp only at H)
           have A19 := Aside0.mk A190
           clear A190
           have H' := Aside0.mk H
           clear H
           go_wp2_with (first | ((with_reducible refine gate_callee (f := 111) rfl ?_);refine goesL_ (some 25) rfl rfl Tryz.func111 (by kernel_rfl) rfl #[.slice A0 l0.length c0,.int .i64 0,.int .u8 237,.int .u8 237] rfl (by (try simp only [List.map_toArray,List.map_cons,List.map_nil]);try rfl) ?_;(with_reducible refine (incipitref01_between.calls _ _ l0 0 237 237 true _ ?side1 ?side2 A17.out).mono ?_);(case side1 => repeat (first | exact HR0.out | (with_reducible refine Kd.C_alloc ?_ _) | (with_reducible refine Kd.C_drewN ?_ _) | (with_reducible refine Kd.C_drew ?_)));(case side2 => exact HC0.out);rintro e w' ⟨rfl,⟨nd,rfl⟩⟩;refine ⟨_,rfl,?_⟩) | (go_at_call 111;(with_reducible refine (incipitref01_between.calls _ _ l0 1 128 159 t208 _ ?side1 ?side2 A19.out).mono ?_);(case side1 => repeat (first | exact HR0.out | (with_reducible refine Kd.C_alloc ?_ _) | (with_reducible refine Kd.C_drewN ?_ _) | (with_reducible refine Kd.C_drew ?_)));(case side2 => exact HC0.out);rintro e w' ⟨rfl,⟨nd,rfl⟩⟩))
           go_meet
           case rel => exact ⟨_,(t208),(by first | rfl | (simp;done) | (simp [*];done)),H',⟨by have := HJ3.out;have := HJ10.out;first | omega | exact Nat.le_refl _⟩,by repeat (first | exact Drawn0.refl _ | apply Drawn0.step)⟩
          ·replace c18 := Bool.eq_false_iff.mpr c18
           subst c18
           have H1 : (incipitref01_good.j2 kj10 l0 false) = some r := by rw [if_neg (show ¬ (false = true) by decide)] at H;exact H
           clear H
           have H := H1
           clear H1
           have H' := Aside0.mk H
           clear H
           go_wp2_with (first | ((with_reducible refine gate_callee (f := 111) rfl ?_);refine goesL_ (some 25) rfl rfl Tryz.func111 (by kernel_rfl) rfl #[.slice A0 l0.length c0,.int .i64 0,.int .u8 237,.int .u8 237] rfl (by (try simp only [List.map_toArray,List.map_cons,List.map_nil]);try rfl) ?_;(with_reducible refine (incipitref01_between.calls _ _ l0 0 237 237 false _ ?side1 ?side2 A17.out).mono ?_);(case side1 => repeat (first | exact HR0.out | (with_reducible refine Kd.C_alloc ?_ _) | (with_reducible refine Kd.C_drewN ?_ _) | (with_reducible refine Kd.C_drew ?_)));(case side2 => exact HC0.out);rintro e w' ⟨rfl,⟨nd,rfl⟩⟩;refine ⟨_,rfl,?_⟩))
           go_meet
           case rel => exact ⟨_,(false),(by first | rfl | (simp;done) | (simp [*];done)),H',⟨by have := HJ3.out;have := HJ10.out;first | omega | exact Nat.le_refl _⟩,by repeat (first | exact Drawn0.refl _ | apply Drawn0.step)⟩
        case rest =>
         clear HC15
         try clear c1
         try clear p2
         try clear c3
         try clear c6
         try clear c8
         try clear c9
         try clear c10
         try clear c11
         try clear c13
         try clear c16
         try clear c18
         try clear p2
         obtain ⟨kq,x17_14,rfl,HA,HJ14,⟨mc14,rfl⟩⟩ := hcut
         cases kq with
         | zero => exact absurd HA.out (by simp [incipitref01_good.j2])
         | succ kj14 =>
          have H := HA.out
          clear HA
          simp only [incipitref01_good.j2] at H
          by_cases c20 : x17_14 = true
          ·subst c20
           have H1 : (some 3) = some r := by rw [if_pos rfl] at H;exact H
           clear H
           have H := H1
           clear H1
           obtain rfl := Option.some.inj H
           go_wp2
           go_ret
           exact ⟨by first | rfl | (simp;done) | (simp [*];done),by repeat (first | exact Drawn0.refl _ | apply Drawn0.step)⟩
          ·replace c20 := Bool.eq_false_iff.mpr c20
           subst c20
           have H1 : ((incipitref01_between.f l0 0 225 236).bind fun t209 => (if t209 = true then ((incipitref01_between.f l0 1 128 191).bind fun t210 => (incipitref01_good.j3 kj14 l0 t210)) else ((incipitref01_between.f l0 0 238 239).bind fun t211 => (if t211 = true then ((incipitref01_between.f l0 1 128 191).bind fun t212 => (incipitref01_good.j3 kj14 l0 t212)) else (incipitref01_good.j3 kj14 l0 false))))) = some r := by rw [if_neg (show ¬ (false = true) by decide)] at H;exact H
           clear H
           have H := H1
           clear H1
           have HC21 := Aside0.mk H
           clear H
           go_upto_region 10 with (fail)
           go_cut [30] (fun v30 wc => ∃ (kq : Nat) (x30_20 : Bool),v30 = .bool x30_20 ∧ Aside0 (incipitref01_good.j3 kq l0 x30_20 = some r) ∧ Aside0 (kq ≤ kj14) ∧ Drawn0 w wc)
           case first =>
            have H := HC21.out
            clear HC21
            replace H := Option.bind_eq_some_iff.mp H
            obtain ⟨t209,A220,H⟩ := H
            (try dsimp only at H)
            have A22 := Aside0.mk A220
            clear A220
            by_cases c23 : t209 = true
            ·subst c23
             have H1 : ((incipitref01_between.f l0 1 128 191).bind fun t210 => (incipitref01_good.j3 kj14 l0 t210)) = some r := by rw [if_pos rfl] at H;exact H
             clear H
             have H := H1
             clear H1
             replace H := Option.bind_eq_some_iff.mp H
             obtain ⟨t210,A240,H⟩ := H
             (try dsimp only at H)
             have A24 := Aside0.mk A240
             clear A240
             have H' := Aside0.mk H
             clear H
             go_wp2_with (first | ((with_reducible refine gate_callee (f := 111) rfl ?_);refine goesL_ (some 32) rfl rfl Tryz.func111 (by kernel_rfl) rfl #[.slice A0 l0.length c0,.int .i64 0,.int .u8 225,.int .u8 236] rfl (by (try simp only [List.map_toArray,List.map_cons,List.map_nil]);try rfl) ?_;(with_reducible refine (incipitref01_between.calls _ _ l0 0 225 236 true _ ?side1 ?side2 A22.out).mono ?_);(case side1 => repeat (first | exact HR0.out | (with_reducible refine Kd.C_alloc ?_ _) | (with_reducible refine Kd.C_drewN ?_ _) | (with_reducible refine Kd.C_drew ?_)));(case side2 => exact HC0.out);rintro e w' ⟨rfl,⟨nd,rfl⟩⟩;refine ⟨_,rfl,?_⟩) | (go_at_call 111;(with_reducible refine (incipitref01_between.calls _ _ l0 1 128 191 t210 _ ?side1 ?side2 A24.out).mono ?_);(case side1 => repeat (first | exact HR0.out | (with_reducible refine Kd.C_alloc ?_ _) | (with_reducible refine Kd.C_drewN ?_ _) | (with_reducible refine Kd.C_drew ?_)));(case side2 => exact HC0.out);rintro e w' ⟨rfl,⟨nd,rfl⟩⟩))
             go_meet
             case rel => exact ⟨_,(t210),(by first | rfl | (simp;done) | (simp [*];done)),H',⟨by have := HJ3.out;have := HJ10.out;have := HJ14.out;first | omega | exact Nat.le_refl _⟩,by repeat (first | exact Drawn0.refl _ | apply Drawn0.step)⟩
            ·replace c23 := Bool.eq_false_iff.mpr c23
             subst c23
             have H1 : ((incipitref01_between.f l0 0 238 239).bind fun t211 => (if t211 = true then ((incipitref01_between.f l0 1 128 191).bind fun t212 => (incipitref01_good.j3 kj14 l0 t212)) else (incipitref01_good.j3 kj14 l0 false))) = some r := by rw [if_neg (show ¬ (false = true) by decide)] at H;exact H
             clear H
             have H := H1
             clear H1
             replace H := Option.bind_eq_some_iff.mp H
             obtain ⟨t211,A250,H⟩ := H
             (try dsimp only at H)
             have A25 := Aside0.mk A250
             clear A250
             by_cases c26 : t211 = true
             ·subst c26
              have H1 : ((incipitref01_between.f l0 1 128 191).bind fun t212 => (incipitref01_good.j3 kj14 l0 t212)) = some r := by rw [if_pos rfl] at H;exact H
              clear H
              have H := H1
              clear H1
              replace H := Option.bind_eq_some_iff.mp H
              obtain ⟨t212,A270,H⟩ := H
              (try dsimp only at H)
              have A27 := Aside0.mk A270
              clear A270
              have H' := Aside0.mk H
              clear H
              go_wp2_with (first | ((with_reducible refine gate_callee (f := 111) rfl ?_);refine goesL_ (some 32) rfl rfl Tryz.func111 (by kernel_rfl) rfl #[.slice A0 l0.length c0,.int .i64 0,.int .u8 225,.int .u8 236] rfl (by (try simp only [List.map_toArray,List.map_cons,List.map_nil]);try rfl) ?_;(with_reducible refine (incipitref01_between.calls _ _ l0 0 225 236 false _ ?side1 ?side2 A22.out).mono ?_);(case side1 => repeat (first | exact HR0.out | (with_reducible refine Kd.C_alloc ?_ _) | (with_reducible refine Kd.C_drewN ?_ _) | (with_reducible refine Kd.C_drew ?_)));(case side2 => exact HC0.out);rintro e w' ⟨rfl,⟨nd,rfl⟩⟩;refine ⟨_,rfl,?_⟩) | (go_at_call 111;(with_reducible refine (incipitref01_between.calls _ _ l0 0 238 239 true _ ?side1 ?side2 A25.out).mono ?_);(case side1 => repeat (first | exact HR0.out | (with_reducible refine Kd.C_alloc ?_ _) | (with_reducible refine Kd.C_drewN ?_ _) | (with_reducible refine Kd.C_drew ?_)));(case side2 => exact HC0.out);rintro e w' ⟨rfl,⟨nd,rfl⟩⟩) | (go_at_call 111;(with_reducible refine (incipitref01_between.calls _ _ l0 1 128 191 t212 _ ?side1 ?side2 A27.out).mono ?_);(case side1 => repeat (first | exact HR0.out | (with_reducible refine Kd.C_alloc ?_ _) | (with_reducible refine Kd.C_drewN ?_ _) | (with_reducible refine Kd.C_drew ?_)));(case side2 => exact HC0.out);rintro e w' ⟨rfl,⟨nd,rfl⟩⟩))
              go_meet
              case rel => exact ⟨_,(t212),(by first | rfl | (simp;done) | (simp [*];done)),H',⟨by have := HJ3.out;have := HJ10.out;have := HJ14.out;first | omega | exact Nat.le_refl _⟩,by repeat (first | exact Drawn0.refl _ | apply Drawn0.step)⟩
             ·replace c26 := Bool.eq_false_iff.mpr c26
              subst c26
              have H1 : (incipitref01_good.j3 kj14 l0 false) = some r := by rw [if_neg (show ¬ (false = true) by decide)] at H;exact H
              clear H
              have H := H1
              clear H1
              have H' := Aside0.mk H
              clear H
              go_wp2_with (first | ((with_reducible refine gate_callee (f := 111) rfl ?_);refine goesL_ (some 32) rfl rfl Tryz.func111 (by kernel_rfl) rfl #[.slice A0 l0.length c0,.int .i64 0,.int .u8 225,.int .u8 236] rfl (by (try simp only [List.map_toArray,List.map_cons,List.map_nil]);try rfl) ?_;(with_reducible refine (incipitref01_between.calls _ _ l0 0 225 236 false _ ?side1 ?side2 A22.out).mono ?_);(case side1 => repeat (first | exact HR0.out | (with_reducible refine Kd.C_alloc ?_ _) | (with_reducible refine Kd.C_drewN ?_ _) | (with_reducible refine Kd.C_drew ?_)));(case side2 => exact HC0.out);rintro e w' ⟨rfl,⟨nd,rfl⟩⟩;refine ⟨_,rfl,?_⟩) | (go_at_call 111;(with_reducible refine (incipitref01_between.calls _ _ l0 0 238 239 false _ ?side1 ?side2 A25.out).mono ?_);(case side1 => repeat (first | exact HR0.out | (with_reducible refine Kd.C_alloc ?_ _) | (with_reducible refine Kd.C_drewN ?_ _) | (with_reducible refine Kd.C_drew ?_)));(case side2 => exact HC0.out);rintro e w' ⟨rfl,⟨nd,rfl⟩⟩))
              go_meet
              case rel => exact ⟨_,(false),(by first | rfl | (simp;done) | (simp [*];done)),H',⟨by have := HJ3.out;have := HJ10.out;have := HJ14.out;first | omega | exact Nat.le_refl _⟩,by repeat (first | exact Drawn0.refl _ | apply Drawn0.step)⟩
           case rest =>
            clear HC21
            try clear c1
            try clear c2
            try clear p2
            try clear c3
            try clear c6
            try clear c8
            try clear c9
            try clear c10
            try clear c11
            try clear c13
            try clear c14
            try clear c16
            try clear c18
            try clear c20
            try clear c23
            try clear c26
            try clear p2
            obtain ⟨kq,x30_20,rfl,HA,HJ20,⟨mc20,rfl⟩⟩ := hcut
            cases kq with
            | zero => exact absurd HA.out (by simp [incipitref01_good.j3])
            | succ kj20 =>
             have H := HA.out
             clear HA
             simp only [incipitref01_good.j3] at H
             by_cases c28 : x30_20 = true
             ·subst c28
              have H1 : (some 3) = some r := by rw [if_pos rfl] at H;exact H
              clear H
              have H := H1
              clear H1
              obtain rfl := Option.some.inj H
              go_wp2
              go_ret
              exact ⟨by first | rfl | (simp;done) | (simp [*];done),by repeat (first | exact Drawn0.refl _ | apply Drawn0.step)⟩
             ·replace c28 := Bool.eq_false_iff.mpr c28
              subst c28
              have H1 : ((incipitref01_between.f l0 3 128 191).bind fun t213 => (if t213 = true then ((incipitref01_between.f l0 0 240 240).bind fun t214 => (if t214 = true then ((incipitref01_between.f l0 1 144 191).bind fun t215 => (incipitref01_good.j4 kj20 l0 t215)) else (incipitref01_good.j4 kj20 l0 false))) else (some 0))) = some r := by rw [if_neg (show ¬ (false = true) by decide)] at H;exact H
              clear H
              have H := H1
              clear H1
              replace H := Option.bind_eq_some_iff.mp H
              obtain ⟨t213,A290,H⟩ := H
              (try dsimp only at H)
              have A29 := Aside0.mk A290
              clear A290
              by_cases c30 : t213 = true
              ·subst c30
               have H1 : ((incipitref01_between.f l0 0 240 240).bind fun t214 => (if t214 = true then ((incipitref01_between.f l0 1 144 191).bind fun t215 => (incipitref01_good.j4 kj20 l0 t215)) else (incipitref01_good.j4 kj20 l0 false))) = some r := by rw [if_pos rfl] at H;exact H
               clear H
               have H := H1
               clear H1
               have HC31 := Aside0.mk H
               clear H
               go_upto_region 14 with (first | ((with_reducible refine gate_callee (f := 111) rfl ?_);refine goesL_ (some 43) rfl rfl Tryz.func111 (by kernel_rfl) rfl #[.slice A0 l0.length c0,.int .i64 3,.int .u8 128,.int .u8 191] rfl (by (try simp only [List.map_toArray,List.map_cons,List.map_nil]);try rfl) ?_;(with_reducible refine (incipitref01_between.calls _ _ l0 3 128 191 true _ ?side1 ?side2 A29.out).mono ?_);(case side1 => repeat (first | exact HR0.out | (with_reducible refine Kd.C_alloc ?_ _) | (with_reducible refine Kd.C_drewN ?_ _) | (with_reducible refine Kd.C_drew ?_)));(case side2 => exact HC0.out);rintro e w' ⟨rfl,⟨nd,rfl⟩⟩;refine ⟨_,rfl,?_⟩))
               (try simp only [Act.put,List.setIfInBounds_toArray,List.set_cons_zero,List.set_cons_succ])
               go_cut [45] (fun v45 wc => ∃ (kq : Nat) (x45_30 : Bool),v45 = .bool x45_30 ∧ Aside0 (incipitref01_good.j4 kq l0 x45_30 = some r) ∧ Aside0 (kq ≤ kj20) ∧ Drawn0 w wc)
               case first =>
                have H := HC31.out
                clear HC31
                replace H := Option.bind_eq_some_iff.mp H
                obtain ⟨t214,A320,H⟩ := H
                (try dsimp only at H)
                have A32 := Aside0.mk A320
                clear A320
                by_cases c33 : t214 = true
                ·subst c33
                 have H1 : ((incipitref01_between.f l0 1 144 191).bind fun t215 => (incipitref01_good.j4 kj20 l0 t215)) = some r := by rw [if_pos rfl] at H;exact H
                 clear H
                 have H := H1
                 clear H1
                 replace H := Option.bind_eq_some_iff.mp H
                 obtain ⟨t215,A340,H⟩ := H
                 (try dsimp only at H)
                 have A34 := Aside0.mk A340
                 clear A340
                 have H' := Aside0.mk H
                 clear H
                 go_wp2_with (first | ((with_reducible refine gate_callee (f := 111) rfl ?_);refine goesL_ (some 47) rfl rfl Tryz.func111 (by kernel_rfl) rfl #[.slice A0 l0.length c0,.int .i64 0,.int .u8 240,.int .u8 240] rfl (by (try simp only [List.map_toArray,List.map_cons,List.map_nil]);try rfl) ?_;(with_reducible refine (incipitref01_between.calls _ _ l0 0 240 240 true _ ?side1 ?side2 A32.out).mono ?_);(case side1 => repeat (first | exact HR0.out | (with_reducible refine Kd.C_alloc ?_ _) | (with_reducible refine Kd.C_drewN ?_ _) | (with_reducible refine Kd.C_drew ?_)));(case side2 => exact HC0.out);rintro e w' ⟨rfl,⟨nd,rfl⟩⟩;refine ⟨_,rfl,?_⟩) | (go_at_call 111;(with_reducible refine (incipitref01_between.calls _ _ l0 1 144 191 t215 _ ?side1 ?side2 A34.out).mono ?_);(case side1 => repeat (first | exact HR0.out | (with_reducible refine Kd.C_alloc ?_ _) | (with_reducible refine Kd.C_drewN ?_ _) | (with_reducible refine Kd.C_drew ?_)));(case side2 => exact HC0.out);rintro e w' ⟨rfl,⟨nd,rfl⟩⟩))
                 go_meet
                 case rel => exact ⟨_,(t215),(by first | rfl | (simp;done) | (simp [*];done)),H',⟨by have := HJ3.out;have := HJ10.out;have := HJ14.out;have := HJ20.out;first | omega | exact Nat.le_refl _⟩,by repeat (first | exact Drawn0.refl _ | apply Drawn0.step)⟩
                ·replace c33 := Bool.eq_false_iff.mpr c33
                 subst c33
                 have H1 : (incipitref01_good.j4 kj20 l0 false) = some r := by rw [if_neg (show ¬ (false = true) by decide)] at H;exact H
                 clear H
                 have H := H1
                 clear H1
                 have H' := Aside0.mk H
                 clear H
                 go_wp2_with (first | ((with_reducible refine gate_callee (f := 111) rfl ?_);refine goesL_ (some 47) rfl rfl Tryz.func111 (by kernel_rfl) rfl #[.slice A0 l0.length c0,.int .i64 0,.int .u8 240,.int .u8 240] rfl (by (try simp only [List.map_toArray,List.map_cons,List.map_nil]);try rfl) ?_;(with_reducible refine (incipitref01_between.calls _ _ l0 0 240 240 false _ ?side1 ?side2 A32.out).mono ?_);(case side1 => repeat (first | exact HR0.out | (with_reducible refine Kd.C_alloc ?_ _) | (with_reducible refine Kd.C_drewN ?_ _) | (with_reducible refine Kd.C_drew ?_)));(case side2 => exact HC0.out);rintro e w' ⟨rfl,⟨nd,rfl⟩⟩;refine ⟨_,rfl,?_⟩))
                 go_meet
                 case rel => exact ⟨_,(false),(by first | rfl | (simp;done) | (simp [*];done)),H',⟨by have := HJ3.out;have := HJ10.out;have := HJ14.out;have := HJ20.out;first | omega | exact Nat.le_refl _⟩,by repeat (first | exact Drawn0.refl _ | apply Drawn0.step)⟩
               case rest =>
                clear HC31
                try clear c1
                try clear c2
                try clear p2
                try clear c3
                try clear c6
                try clear c8
                try clear c9
                try clear c10
                try clear c11
                try clear c13
                try clear c14
                try clear c16
                try clear c18
                try clear c20
                try clear c23
                try clear c26
                try clear c28
                try clear c30
                try clear c33
                try clear p2
                obtain ⟨kq,x45_30,rfl,HA,HJ30,⟨mc30,rfl⟩⟩ := hcut
                cases kq with
                | zero => exact absurd HA.out (by simp [incipitref01_good.j4])
                | succ kj30 =>
                 have H := HA.out
                 clear HA
                 simp only [incipitref01_good.j4] at H
                 by_cases c35 : x45_30 = true
                 ·subst c35
                  have H1 : (some 4) = some r := by rw [if_pos rfl] at H;exact H
                  clear H
                  have H := H1
                  clear H1
                  obtain rfl := Option.some.inj H
                  go_wp2
                  go_ret
                  exact ⟨by first | rfl | (simp;done) | (simp [*];done),by repeat (first | exact Drawn0.refl _ | apply Drawn0.step)⟩
                 ·replace c35 := Bool.eq_false_iff.mpr c35
                  subst c35
                  have H1 : ((incipitref01_between.f l0 0 241 243).bind fun t216 => (if t216 = true then ((incipitref01_between.f l0 1 128 191).bind fun t217 => (incipitref01_good.j5 kj30 l0 t217)) else (incipitref01_good.j5 kj30 l0 false))) = some r := by rw [if_neg (show ¬ (false = true) by decide)] at H;exact H
                  clear H
                  have H := H1
                  clear H1
                  have HC36 := Aside0.mk H
                  clear H
                  go_upto_region 15 with (fail)
                  go_cut [45] (fun v45 wc => ∃ (kq : Nat) (x45_35 : Bool),v45 = .bool x45_35 ∧ Aside0 (incipitref01_good.j5 kq l0 x45_35 = some r) ∧ Aside0 (kq ≤ kj30) ∧ Drawn0 w wc)
                  case first =>
                   have H := HC36.out
                   clear HC36
                   replace H := Option.bind_eq_some_iff.mp H
                   obtain ⟨t216,A370,H⟩ := H
                   (try dsimp only at H)
                   have A37 := Aside0.mk A370
                   clear A370
                   by_cases c38 : t216 = true
                   ·subst c38
                    have H1 : ((incipitref01_between.f l0 1 128 191).bind fun t217 => (incipitref01_good.j5 kj30 l0 t217)) = some r := by rw [if_pos rfl] at H;exact H
                    clear H
                    have H := H1
                    clear H1
                    replace H := Option.bind_eq_some_iff.mp H
                    obtain ⟨t217,A390,H⟩ := H
                    (try dsimp only at H)
                    have A39 := Aside0.mk A390
                    clear A390
                    have H' := Aside0.mk H
                    clear H
                    go_wp2_with (first | ((with_reducible refine gate_callee (f := 111) rfl ?_);refine goesL_ (some 53) rfl rfl Tryz.func111 (by kernel_rfl) rfl #[.slice A0 l0.length c0,.int .i64 0,.int .u8 241,.int .u8 243] rfl (by (try simp only [List.map_toArray,List.map_cons,List.map_nil]);try rfl) ?_;(with_reducible refine (incipitref01_between.calls _ _ l0 0 241 243 true _ ?side1 ?side2 A37.out).mono ?_);(case side1 => repeat (first | exact HR0.out | (with_reducible refine Kd.C_alloc ?_ _) | (with_reducible refine Kd.C_drewN ?_ _) | (with_reducible refine Kd.C_drew ?_)));(case side2 => exact HC0.out);rintro e w' ⟨rfl,⟨nd,rfl⟩⟩;refine ⟨_,rfl,?_⟩) | (go_at_call 111;(with_reducible refine (incipitref01_between.calls _ _ l0 1 128 191 t217 _ ?side1 ?side2 A39.out).mono ?_);(case side1 => repeat (first | exact HR0.out | (with_reducible refine Kd.C_alloc ?_ _) | (with_reducible refine Kd.C_drewN ?_ _) | (with_reducible refine Kd.C_drew ?_)));(case side2 => exact HC0.out);rintro e w' ⟨rfl,⟨nd,rfl⟩⟩))
                    go_meet
                    case rel => exact ⟨_,(t217),(by first | rfl | (simp;done) | (simp [*];done)),H',⟨by have := HJ3.out;have := HJ10.out;have := HJ14.out;have := HJ20.out;have := HJ30.out;first | omega | exact Nat.le_refl _⟩,by repeat (first | exact Drawn0.refl _ | apply Drawn0.step)⟩
                   ·replace c38 := Bool.eq_false_iff.mpr c38
                    subst c38
                    have H1 : (incipitref01_good.j5 kj30 l0 false) = some r := by rw [if_neg (show ¬ (false = true) by decide)] at H;exact H
                    clear H
                    have H := H1
                    clear H1
                    have H' := Aside0.mk H
                    clear H
                    go_wp2_with (first | ((with_reducible refine gate_callee (f := 111) rfl ?_);refine goesL_ (some 53) rfl rfl Tryz.func111 (by kernel_rfl) rfl #[.slice A0 l0.length c0,.int .i64 0,.int .u8 241,.int .u8 243] rfl (by (try simp only [List.map_toArray,List.map_cons,List.map_nil]);try rfl) ?_;(with_reducible refine (incipitref01_between.calls _ _ l0 0 241 243 false _ ?side1 ?side2 A37.out).mono ?_);(case side1 => repeat (first | exact HR0.out | (with_reducible refine Kd.C_alloc ?_ _) | (with_reducible refine Kd.C_drewN ?_ _) | (with_reducible refine Kd.C_drew ?_)));(case side2 => exact HC0.out);rintro e w' ⟨rfl,⟨nd,rfl⟩⟩;refine ⟨_,rfl,?_⟩))
                    go_meet
                    case rel => exact ⟨_,(false),(by first | rfl | (simp;done) | (simp [*];done)),H',⟨by have := HJ3.out;have := HJ10.out;have := HJ14.out;have := HJ20.out;have := HJ30.out;first | omega | exact Nat.le_refl _⟩,by repeat (first | exact Drawn0.refl _ | apply Drawn0.step)⟩
                  case rest =>
                   clear HC36
                   try clear c1
                   try clear c2
                   try clear p2
                   try clear c3
                   try clear c6
                   try clear c8
                   try clear c9
                   try clear c10
                   try clear c11
                   try clear c13
                   try clear c14
                   try clear c16
                   try clear c18
                   try clear c20
                   try clear c23
                   try clear c26
                   try clear c28
                   try clear c30
                   try clear c33
                   try clear c35
                   try clear c38
                   try clear p2
                   obtain ⟨kq,x45_35,rfl,HA,HJ35,⟨mc35,rfl⟩⟩ := hcut
                   cases kq with
                   | zero => exact absurd HA.out (by simp [incipitref01_good.j5])
                   | succ kj35 =>
                    have H := HA.out
                    clear HA
                    simp only [incipitref01_good.j5] at H
                    by_cases c40 : x45_35 = true
                    ·subst c40
                     have H1 : (some 4) = some r := by rw [if_pos rfl] at H;exact H
                     clear H
                     have H := H1
                     clear H1
                     obtain rfl := Option.some.inj H
                     go_wp2
                     go_ret
                     exact ⟨by first | rfl | (simp;done) | (simp [*];done),by repeat (first | exact Drawn0.refl _ | apply Drawn0.step)⟩
                    ·replace c40 := Bool.eq_false_iff.mpr c40
                     subst c40
                     have H1 : ((incipitref01_between.f l0 0 244 244).bind fun t218 => (if t218 = true then ((incipitref01_between.f l0 1 128 143).bind fun t219 => (if t219 = true then (some 4) else (some 0))) else (some 0))) = some r := by rw [if_neg (show ¬ (false = true) by decide)] at H;exact H
                     clear H
                     have H := H1
                     clear H1
                     replace H := Option.bind_eq_some_iff.mp H
                     obtain ⟨t218,A410,H⟩ := H
                     (try dsimp only at H)
                     have A41 := Aside0.mk A410
                     clear A410
                     by_cases c42 : t218 = true
                     ·subst c42
                      have H1 : ((incipitref01_between.f l0 1 128 143).bind fun t219 => (if t219 = true then (some 4) else (some 0))) = some r := by rw [if_pos rfl] at H;exact H
                      clear H
                      have H := H1
                      clear H1
                      replace H := Option.bind_eq_some_iff.mp H
                      obtain ⟨t219,A430,H⟩ := H
                      (try dsimp only at H)
                      have A43 := Aside0.mk A430
                      clear A430
                      by_cases c44 : t219 = true
                      ·subst c44
                       have H1 : (some 4) = some r := by rw [if_pos rfl] at H;exact H
                       clear H
                       have H := H1
                       clear H1
                       obtain rfl := Option.some.inj H
                       go_wp2_with (first | ((with_reducible refine gate_callee (f := 111) rfl ?_);refine goesL_ (some 59) rfl rfl Tryz.func111 (by kernel_rfl) rfl #[.slice A0 l0.length c0,.int .i64 0,.int .u8 244,.int .u8 244] rfl (by (try simp only [List.map_toArray,List.map_cons,List.map_nil]);try rfl) ?_;(with_reducible refine (incipitref01_between.calls _ _ l0 0 244 244 true _ ?side1 ?side2 A41.out).mono ?_);(case side1 => repeat (first | exact HR0.out | (with_reducible refine Kd.C_alloc ?_ _) | (with_reducible refine Kd.C_drewN ?_ _) | (with_reducible refine Kd.C_drew ?_)));(case side2 => exact HC0.out);rintro e w' ⟨rfl,⟨nd,rfl⟩⟩;refine ⟨_,rfl,?_⟩) | (go_at_call 111;(with_reducible refine (incipitref01_between.calls _ _ l0 1 128 143 true _ ?side1 ?side2 A43.out).mono ?_);(case side1 => repeat (first | exact HR0.out | (with_reducible refine Kd.C_alloc ?_ _) | (with_reducible refine Kd.C_drewN ?_ _) | (with_reducible refine Kd.C_drew ?_)));(case side2 => exact HC0.out);rintro e w' ⟨rfl,⟨nd,rfl⟩⟩))
                       go_ret
                       exact ⟨by first | rfl | (simp;done) | (simp [*];done),by repeat (first | exact Drawn0.refl _ | apply Drawn0.step)⟩
                      ·replace c44 := Bool.eq_false_iff.mpr c44
                       subst c44
                       have H1 : (some 0) = some r := by rw [if_neg (show ¬ (false = true) by decide)] at H;exact H
                       clear H
                       have H := H1
                       clear H1
                       obtain rfl := Option.some.inj H
                       go_wp2_with (first | ((with_reducible refine gate_callee (f := 111) rfl ?_);refine goesL_ (some 59) rfl rfl Tryz.func111 (by kernel_rfl) rfl #[.slice A0 l0.length c0,.int .i64 0,.int .u8 244,.int .u8 244] rfl (by (try simp only [List.map_toArray,List.map_cons,List.map_nil]);try rfl) ?_;(with_reducible refine (incipitref01_between.calls _ _ l0 0 244 244 true _ ?side1 ?side2 A41.out).mono ?_);(case side1 => repeat (first | exact HR0.out | (with_reducible refine Kd.C_alloc ?_ _) | (with_reducible refine Kd.C_drewN ?_ _) | (with_reducible refine Kd.C_drew ?_)));(case side2 => exact HC0.out);rintro e w' ⟨rfl,⟨nd,rfl⟩⟩;refine ⟨_,rfl,?_⟩) | (go_at_call 111;(with_reducible refine (incipitref01_between.calls _ _ l0 1 128 143 false _ ?side1 ?side2 A43.out).mono ?_);(case side1 => repeat (first | exact HR0.out | (with_reducible refine Kd.C_alloc ?_ _) | (with_reducible refine Kd.C_drewN ?_ _) | (with_reducible refine Kd.C_drew ?_)));(case side2 => exact HC0.out);rintro e w' ⟨rfl,⟨nd,rfl⟩⟩))
                       go_ret
                       exact ⟨by first | rfl | (simp;done) | (simp [*];done),by repeat (first | exact Drawn0.refl _ | apply Drawn0.step)⟩
                     ·replace c42 := Bool.eq_false_iff.mpr c42
                      subst c42
                      have H1 : (some 0) = some r := by rw [if_neg (show ¬ (false = true) by decide)] at H;exact H
                      clear H
                      have H := H1
                      clear H1
                      obtain rfl := Option.some.inj H
                      go_wp2_with (first | ((with_reducible refine gate_callee (f := 111) rfl ?_);refine goesL_ (some 59) rfl rfl Tryz.func111 (by kernel_rfl) rfl #[.slice A0 l0.length c0,.int .i64 0,.int .u8 244,.int .u8 244] rfl (by (try simp only [List.map_toArray,List.map_cons,List.map_nil]);try rfl) ?_;(with_reducible refine (incipitref01_between.calls _ _ l0 0 244 244 false _ ?side1 ?side2 A41.out).mono ?_);(case side1 => repeat (first | exact HR0.out | (with_reducible refine Kd.C_alloc ?_ _) | (with_reducible refine Kd.C_drewN ?_ _) | (with_reducible refine Kd.C_drew ?_)));(case side2 => exact HC0.out);rintro e w' ⟨rfl,⟨nd,rfl⟩⟩;refine ⟨_,rfl,?_⟩))
                      go_ret
                      exact ⟨by first | rfl | (simp;done) | (simp [*];done),by repeat (first | exact Drawn0.refl _ | apply Drawn0.step)⟩
              ·replace c30 := Bool.eq_false_iff.mpr c30
               subst c30
               have H1 : (some 0) = some r := by rw [if_neg (show ¬ (false = true) by decide)] at H;exact H
               clear H
               have H := H1
               clear H1
               obtain rfl := Option.some.inj H
               go_wp2_with (first | ((with_reducible refine gate_callee (f := 111) rfl ?_);refine goesL_ (some 43) rfl rfl Tryz.func111 (by kernel_rfl) rfl #[.slice A0 l0.length c0,.int .i64 3,.int .u8 128,.int .u8 191] rfl (by (try simp only [List.map_toArray,List.map_cons,List.map_nil]);try rfl) ?_;(with_reducible refine (incipitref01_between.calls _ _ l0 3 128 191 false _ ?side1 ?side2 A29.out).mono ?_);(case side1 => repeat (first | exact HR0.out | (with_reducible refine Kd.C_alloc ?_ _) | (with_reducible refine Kd.C_drewN ?_ _) | (with_reducible refine Kd.C_drew ?_)));(case side2 => exact HC0.out);rintro e w' ⟨rfl,⟨nd,rfl⟩⟩;refine ⟨_,rfl,?_⟩))
               go_ret
               exact ⟨by first | rfl | (simp;done) | (simp [*];done),by repeat (first | exact Drawn0.refl _ | apply Drawn0.step)⟩
     ·replace c10 := Bool.eq_false_iff.mpr c10
      subst c10
      have H1 : (some 0) = some r := by rw [if_neg (show ¬ (false = true) by decide)] at H;exact H
      clear H
      have H := H1
      clear H1
      obtain rfl := Option.some.inj H
      go_wp2_with (first | ((with_reducible refine gate_callee (f := 111) rfl ?_);refine goesL_ (some 15) rfl rfl Tryz.func111 (by kernel_rfl) rfl #[.slice A0 l0.length c0,.int .i64 2,.int .u8 128,.int .u8 191] rfl (by (try simp only [List.map_toArray,List.map_cons,List.map_nil]);try rfl) ?_;(with_reducible refine (incipitref01_between.calls _ _ l0 2 128 191 false _ ?side1 ?side2 A9.out).mono ?_);(case side1 => repeat (first | exact HR0.out | (with_reducible refine Kd.C_alloc ?_ _) | (with_reducible refine Kd.C_drewN ?_ _) | (with_reducible refine Kd.C_drew ?_)));(case side2 => exact HC0.out);rintro e w' ⟨rfl,⟨nd,rfl⟩⟩;refine ⟨_,rfl,?_⟩))
      go_ret
      exact ⟨by first | rfl | (simp;done) | (simp [*];done),by repeat (first | exact Drawn0.refl _ | apply Drawn0.step)⟩

end Go.Proofs.YtekifcbokdidlaaGreatDoor.PA
namespace Go.Proofs.YtekifcbokdidlaaGreatDoor.PA
open Go.RowKit Go.Proofs.YtekifcbokdidlaaGreatDoorW.PrintWords Go.Proofs.YtekifcbokdidlaaGreatDoorW.PrintLast Go.Proofs.YtekifcbokdidlaaGreatDoorW.PrintMore
attribute [local go_sem] max2_int min2_int max_two min_two max_three min_three max_four min_four   -- for this text's walks alone
set_option linter.unusedVariables false
set_option linter.unusedSimpArgs false

/-! ### incipitref01_Clean: function 93 -/
def incipitref01_Clean.l0 : Nat → List Int → List Int → Option (ByteArray)
 | 0,_,_ => none
 | k + 1,x0,x3 => if (x0.length : Int) > 0 then ((incipitref01_good.f k x0).bind fun t220 => (if t220 = 0 then ((some (([239,191,189] : List Int) : List Int)).bind fun y221 => (if x3.length + y221.length < 140737488355328 then (if 1 ≤ (x0.length : Int) then (incipitref01_Clean.l0 k (x0.drop 1) (x3 ++ y221)) else (none)) else (none))) else (if 0 < (x0.length : Int) then (if (rd x0 0) = 0 then ((some (([239,191,189] : List Int) : List Int)).bind fun y233 => (if x3.length + y233.length < 140737488355328 then (if 1 ≤ (x0.length : Int) then (incipitref01_Clean.l0 k (x0.drop 1) (x3 ++ y233)) else (none)) else (none))) else (if 0 ≤ t220 then (if t220 ≤ (x0.length : Int) then ((some (x0.take (t220 : Int).toNat : List Int)).bind fun y244 => (if x3.length + y244.length < 140737488355328 then (incipitref01_Clean.l0 k (x0.drop (t220 : Int).toNat) (x3 ++ y244)) else (none))) else (none)) else (none))) else (none)))) else (some (strOfNums x3))
def incipitref01_Clean.f (k : Nat) (l0 : List Int) : Option (ByteArray) := incipitref01_Clean.l0 k l0 ([] : List Int)
set_option maxHeartbeats 8000000 in
set_option maxRecDepth 100000 in
theorem incipitref01_Clean.calls (k : Nat) (P0_ : Nat → Prop) (A0 : Option Addr) (c0 : Nat) (l0 : List Int) (r : ByteArray) (w : World) (hs0 : Kd.V (Kd.int .u8) 5 w w.heap.size (fun k_ => P0_ k_) (.slice A0 l0.length c0) l0) (h : incipitref01_Clean.f k l0 = some r) :
    Calls Tryz.prog 93 #[.slice A0 l0.length c0] w fun e w' => e = .returned (.string r) ∧ Below w.heap.size w w' := by
  have HO0 := Aside0.mk (show Kd.V (Kd.int .u8) 5 w w.heap.size (fun k_ => (P0_ k_ ∨ w.heap.size ≤ k_)) (.slice A0 l0.length c0) l0 from Kd.V_mono hs0 (fun k_ hk => .inl hk))
  have HB := Aside0.mk (Below.refl w.heap.size w)
  have H : (incipitref01_Clean.l0 k l0 ([] : List Int)) = some r := h
  clear h
  have H' := Aside0.mk H
  clear H
  go_enter Tryz.func93,Tryz.ntmps93
  go_wp2
  go_loopg [0,3] k (fun kq v0 v3 w' => ∃ (x0_1 : List Int) (x3_1 : List Int),Aside0 (incipitref01_Clean.l0 kq x0_1 x3_1 = some r) ∧ Aside0 (kq ≤ k) ∧ Aside0 (Kd.V (Kd.int .u8) 5 w' w.heap.size (fun k_ => (P0_ k_ ∨ w.heap.size ≤ k_) ∧ some k_ ≠ (v3 : Value).ownBlock) v0 x0_1) ∧ Aside0 (Kd.R (Kd.int .u8) 5 w' w.heap.size (fun k_ => (w.heap.size ≤ k_)) v3 x3_1) ∧ Aside0 (Below w.heap.size w w'))
  case atStart => exact ⟨(l0),(([] : List Int)),H',⟨Nat.le_refl _⟩,⟨by (with_reducible repeat (first | apply Kd.V_alloc | apply Kd.V_drewN | apply Kd.V_drew));exact Kd.V_mono HO0.out (fun _ hk => ⟨hk,(by simp [Value.ownBlock])⟩)⟩,⟨by first | exact Kd.R_nil _ _ _ _ _ | exact Kd.N_nil _ _ _ _ _ | exact Kd.V_nil _ _ _ _ _ | exact Kd.Q_nil _ _ _ _ _ | exact Kd.S_nil _ _ _ _ _⟩,⟨by repeat (first | (with_reducible first | exact HB.out | apply below_alloc | apply pw_below_drewN | apply below_drew1) | exact HB.out)⟩⟩
  case round =>
    clear H'
    obtain ⟨x0_1,x3_1,HA,HK1,HO_0,HO_3,HB⟩ := hrel
    cases gk with
    | zero => exact absurd HA.out (by simp [incipitref01_Clean.l0])
    | succ k1 =>
      have H := HA.out
      clear HA
      simp only [incipitref01_Clean.l0] at H
      by_cases c2 : (x0_1.length : Int) > 0
      · rw [if_pos c2] at H
        have c2b0 : decide (0 < (x0_1.length : Int)) = true := decide_eq_true c2
        have c2b1 : decide (0 < x0_1.length) = true := decide_eq_true (by omega)
        clear c2
        replace H := Option.bind_eq_some_iff.mp H
        obtain ⟨t220,A30,H⟩ := H
        replace H : (if t220 = 0 then ((some (([239,191,189] : List Int) : List Int)).bind fun y221 => (if x3_1.length + y221.length < 140737488355328 then (if 1 ≤ (x0_1.length : Int) then (incipitref01_Clean.l0 k1 (x0_1.drop 1) (x3_1 ++ y221)) else (none)) else (none))) else (if 0 < (x0_1.length : Int) then (if (rd x0_1 0) = 0 then ((some (([239,191,189] : List Int) : List Int)).bind fun y233 => (if x3_1.length + y233.length < 140737488355328 then (if 1 ≤ (x0_1.length : Int) then (incipitref01_Clean.l0 k1 (x0_1.drop 1) (x3_1 ++ y233)) else (none)) else (none))) else (if 0 ≤ t220 then (if t220 ≤ (x0_1.length : Int) then ((some (x0_1.take (t220 : Int).toNat : List Int)).bind fun y244 => (if x3_1.length + y244.length < 140737488355328 then (incipitref01_Clean.l0 k1 (x0_1.drop (t220 : Int).toNat) (x3_1 ++ y244)) else (none))) else (none)) else (none))) else (none))) = some r := H
        have A3 := Aside0.mk A30
        clear A30
        by_cases c4 : t220 = 0
        · rw [if_pos c4] at H
          have c4b0 : (t220 == 0) = true := beq_iff_eq.mpr c4
          have c4b1 : (t220 != 0) = false := bne_eq_false_iff_eq.mpr c4
          clear c4
          obtain ⟨y221,hy221⟩ : ∃ y_ : List Int,y_ = (([239,191,189] : List Int)) := ⟨_,rfl⟩
          replace H : (if x3_1.length + y221.length < 140737488355328 then (if 1 ≤ (x0_1.length : Int) then (incipitref01_Clean.l0 k1 (x0_1.drop 1) (x3_1 ++ y221)) else (none)) else (none)) = some r := by first | (rw [hy221];with_reducible exact H) | (have H2_ := (Option.bind_some _ _).symm.trans H;rw [hy221];with_reducible exact H2_) | (have H2_ := (Option.bind_some _ _).symm.trans H;with_reducible exact H2_) | with_reducible exact H | (rw [hy221];exact H) | exact H
          have Ny221 := Aside0.mk hy221
          clear hy221
          by_cases c5 : x3_1.length + y221.length < 140737488355328
          · rw [if_pos c5] at H
            have LMc5 := Aside0.mk c5
            clear c5
            obtain ⟨y224,hy224⟩ : ∃ y_ : List Int,y_ = (x3_1 ++ y221) := ⟨_,rfl⟩
            replace H : (if 1 ≤ (x0_1.length : Int) then (incipitref01_Clean.l0 k1 (x0_1.drop 1) y224) else (none)) = some r := by first | (rw [hy224];with_reducible exact H) | (have H2_ := (Option.bind_some _ _).symm.trans H;rw [hy224];with_reducible exact H2_) | (have H2_ := (Option.bind_some _ _).symm.trans H;with_reducible exact H2_) | with_reducible exact H | (rw [hy224];exact H) | exact H
            have Ny224 := Aside0.mk hy224
            clear hy224
            by_cases c6 : 1 ≤ (x0_1.length : Int)
            · rw [if_pos c6] at H
              have c6b0 := eq_true c6
              have c6b1 : decide (1 ≤ (x0_1.length : Int)) = true := decide_eq_true c6
              clear c6
              obtain ⟨y227,hy227⟩ : ∃ y_ : List Int,y_ = (x0_1.drop 1) := ⟨_,rfl⟩
              replace H : (incipitref01_Clean.l0 k1 y227 y224) = some r := by first | (rw [hy227];with_reducible exact H) | (have H2_ := (Option.bind_some _ _).symm.trans H;rw [hy227];with_reducible exact H2_) | (have H2_ := (Option.bind_some _ _).symm.trans H;with_reducible exact H2_) | with_reducible exact H | (rw [hy227];exact H) | exact H
              have Ny227 := Aside0.mk hy227
              clear hy227
              have H' := Aside0.mk H
              clear H
              obtain ⟨Ao7,co7,eo7⟩ := Kd.V_slice HO_0.out
              subst eo7
              go_wp2_with (first | ((with_reducible refine gate_callee (f := 94) rfl ?_);refine goesL_ (some 9) rfl rfl Tryz.func94 (by kernel_rfl) rfl #[.slice Ao7 x0_1.length co7] rfl (by (try simp only [List.map_toArray,List.map_cons,List.map_nil]);first | done | rfl | (simp only [List.length_drop,List.length_take];rfl)) ?_;(with_reducible refine (incipitref01_good.calls k1 _ _ x0_1 t220 _ ?side1 ?side2 A3.out).mono ?_);(case side1 => repeat (first | exact (Kd.V_reads' HO_0.out).2.2 | (with_reducible refine Kd.C_alloc ?_ _) | (with_reducible refine Kd.C_drewN ?_ _) | (with_reducible refine Kd.C_drew ?_)));(case side2 => exact (Kd.V_reads' HO_0.out).2.1);rintro e w' ⟨rfl,⟨nd,rfl⟩⟩;refine ⟨_,rfl,?_⟩) | ((with_reducible refine gate_dst (N := 19) rfl ?_);refine Kd.R_lit (Kd.int .u8) _ 5 ?hg (N := 19) ?hd (xs := ([239,191,189] : List Int)) (inner := [.int .u8 239,.int .u8 191,.int .u8 189]) (ok := fun _ => True) (okp := fun _ => True) ?hr ?hp (fun _ hk => hk) trivial (Below.refl _ _) (Nat.le_refl _) (by simp) ?_;(case hd => rfl);(case hg => rfl);(case hr => first | (go_simp;done) | (go_simp;rfl));(case hp => exact (Reps.one (show Kd.M (Kd.int .u8) _ _ _ 239 [.int .u8 239] from rfl) (Reps.one (show Kd.M (Kd.int .u8) _ _ _ 191 [.int .u8 191] from rfl) (Reps.one (show Kd.M (Kd.int .u8) _ _ _ 189 [.int .u8 189] from rfl) (Reps.none _ _)))));intro v222 w8 ho9 hb hg_ hnew_;clear hg_ hnew_;(first | rw [← Ny221.out] at ho9 | (simp only [Int.reduceToNat] at ho9;rw [← Ny221.out] at ho9));have n0_ := Aside0.mk (Kd.V_elder' (by (with_reducible repeat (first | apply Kd.V_alloc | apply Kd.V_drewN | apply Kd.V_drew));exact HO_0.out) (Kd.R_base ho9) hb);have n1_ := Aside0.mk (Kd.R_elder' (by (with_reducible repeat (first | apply Kd.R_alloc | apply Kd.R_drewN | apply Kd.R_drew));exact HO_3.out) (Kd.R_base ho9) hb);have n2_ := Aside0.mk (Kd.R_lower (Kd.R_new' (Kd.R_newM (M := fun k_ => (w.heap.size ≤ k_)) ho9 (below_size (by repeat (first | (with_reducible first | exact HB.out | apply below_alloc | apply pw_below_drewN | apply below_drew1) | exact HB.out))) (fun k_ h_ => h_)) (Kd.R_lt (by (with_reducible repeat (first | apply Kd.R_alloc | apply Kd.R_drewN | apply Kd.R_drew));exact HO_3.out))) (below_size (by repeat (first | (with_reducible first | exact HB.out | apply below_alloc | apply pw_below_drewN | apply below_drew1) | exact HB.out))));have n3_ := Aside0.mk (below_step (by repeat (first | (with_reducible first | exact HB.out | apply below_alloc | apply pw_below_drewN | apply below_drew1) | exact HB.out)) hb);clear HO_0;clear HO_3;clear HB;have HO_0 := n0_;have HO_3 := n1_;have HO223 := n2_;have HB := n3_;clear n0_ n1_ n2_ n3_;clear hb ho9;obtain ⟨Ao11,co11,eo11⟩ := Kd.R_slice HO223.out;subst eo11) | ((with_reducible refine gate_builtin (b := .append) (xs := #[.tmp 18,.tmp 19]) rfl ?_);at_builtin;refine Kd.R_append_rows (Kd.int .u8) (w0 := w) w.heap.size rfl (.tmp 18) (.tmp 19) 60 5 (.int .u8 0) 1 rfl Tryz.underlying60 info5 rfl (by decide) (by omega) u3 x3_1 y221 _ _ _ (fun k_ => (w.heap.size ≤ k_) ∧ some k_ ≠ (.slice Ao11 y221.length co11 : Value).ownBlock) (fun _ => False) rfl rfl ?aO ?aR (fun _ _ h => h) (fun _ h => h.elim) ?aF ?aB ?aS ?aL ?_;(case aR => repeat (first | exact (Kd.R_reads' HO223.out).2.2 | (with_reducible refine Kd.C_alloc ?_ _) | (with_reducible refine Kd.C_drewN ?_ _) | (with_reducible refine Kd.C_drew ?_)));(case aB => exact (by repeat (first | (with_reducible first | exact HB.out | apply below_alloc | apply pw_below_drewN | apply below_drew1) | exact HB.out)));(case aF => exact (fun k_ hk => ⟨(Nat.le_trans (below_size (by repeat (first | (with_reducible first | exact HB.out | apply below_alloc | apply pw_below_drewN | apply below_drew1) | exact HB.out))) hk),Kd.fresh' (Kd.R_lt (by (with_reducible repeat (first | apply Kd.R_alloc | apply Kd.R_drewN | apply Kd.R_drew));exact HO223.out)) k_ hk⟩));(case aO => exact (by (with_reducible repeat (first | apply Kd.R_alloc | apply Kd.R_drewN | apply Kd.R_drew));exact HO_3.out));(case aS => exact (below_size (by repeat (first | (with_reducible first | exact HB.out | apply below_alloc | apply pw_below_drewN | apply below_drew1) | exact HB.out))));(case aL => have := LMc5.out;omega);intro v225 w10 ho hb hg hat;rw [← Ny224.out] at ho;have n0_ := Aside0.mk (Kd.V_afterv (ok := (fun k_ => (P0_ k_ ∨ w.heap.size ≤ k_) ∧ some k_ ≠ (.slice Ao11 y221.length co11 : Value).ownBlock)) (by (with_reducible repeat (first | apply Kd.V_alloc | apply Kd.V_drewN | apply Kd.V_drew));exact Kd.V_mono HO_0.out (fun _ hk => ⟨⟨hk.1.1,hk.2⟩,hk.1.2⟩)) hg hat);have n1_ := Aside0.mk (Kd.R_after (ok := (fun k_ => (w.heap.size ≤ k_))) (by (with_reducible repeat (first | apply Kd.R_alloc | apply Kd.R_drewN | apply Kd.R_drew));exact Kd.R_mono HO223.out (fun _ hk => ⟨hk.1.1,hk.2⟩)) hg hat);have n2_ := Aside0.mk (hb);have n3_ := Aside0.mk (ho);clear HO_0;clear HO223;clear HB;clear HO_3;have HO_0 := n0_;have HO223 := n1_;have HB := n2_;have HO226 := n3_;clear n0_ n1_ n2_ n3_;clear ho hb hg hat;have q12 : (1 : Int) ≤ ((x0_1.length : Int) : Int) := of_decide_eq_true (by first | (with_reducible assumption) | assumption);obtain ⟨i012,hi012,_,hsz12,_⟩ := info_parts info5;have hroom12 : x0_1.length ≤ co7 := (Kd.V_reads' HO_0.out).2.1;have hC12 : Kd.F (Kd.int .u8) _ _ Ao7 x0_1.length x0_1 := (Kd.V_at (base := w.heap.size) HO_0.out).2.2;have hcut12 := cut_from (P := Tryz.prog) 60 5 .i64 Tryz.underlying60 hi012 1 hsz12 Ao7 x0_1.length co7 1 (by omega) q12;have hr12 := Kd.F_cut (m := (1 : Int).toNat) (c := co7) hC12 (by omega) hroom12;obtain ⟨A12,hA12⟩ : ∃ A1,A1 = (if co7 = (1 : Int).toNat then Ao7 else (Ao7 : Option Addr).map (·.add ((1 : Int).toNat * 1))) := ⟨_,rfl⟩;obtain ⟨c12,hc12⟩ : ∃ c1,c1 = co7 - (1 : Int).toNat := ⟨_,rfl⟩;have hy12 : y227.length = x0_1.length - (1 : Int).toNat := (by rw [Ny227.out,List.length_drop] <;> omega);rw [show (x0_1).drop (1 : Int).toNat = y227 from Ny227.out.symm] at hr12;replace hr12 : Kd.F (Kd.int .u8) _ _ A12 y227.length y227 := (by rw [hA12];exact hr12);rw [← hy12,← hA12,← hc12] at hcut12;have HO231 := Aside0.mk (show Kd.V (Kd.int .u8) 5 _ w.heap.size _ (.slice A12 y227.length c12) y227 from Kd.V_mk (by rw [hy12,hc12];exact Nat.sub_le_sub_right hroom12 _) hr12);have HC231 := Aside0.mk (show y227.length ≤ c12 from by rw [hy12,hc12];exact Nat.sub_le_sub_right hroom12 _);clear hr12 hC12 hroom12 hi012 hsz12 hc12;have KY12 := Aside0.mk hy12;have KA12 := Aside0.mk hA12;clear hy12 hA12;replace q12 := eq_true q12))
              go_roundg k1
              case measure => have := HK1.out;omega
              case rel => exact ⟨(y227),(y224),H',⟨by have := HK1.out;omega⟩,⟨by (with_reducible repeat (first | apply Kd.V_alloc | apply Kd.V_drewN | apply Kd.V_drew));exact Kd.V_mono HO231.out (fun _ hk => ⟨hk.1.1,hk.2⟩)⟩,⟨by (with_reducible repeat (first | apply Kd.R_alloc | apply Kd.R_drewN | apply Kd.R_drew));exact Kd.R_mono HO226.out (fun _ hk => hk.1)⟩,⟨by repeat (first | (with_reducible first | exact HB.out | apply below_alloc | apply pw_below_drewN | apply below_drew1) | exact HB.out)⟩⟩
            · rw [if_neg c6] at H
              exact absurd H (by simp)
          · rw [if_neg c5] at H
            exact absurd H (by simp)
        · rw [if_neg c4] at H
          have c4b0 : (t220 == 0) = false := beq_eq_false_iff_ne.mpr c4
          have c4b1 : (t220 != 0) = true := bne_iff_ne.mpr c4
          by_cases c13 : 0 < (x0_1.length : Int)
          · rw [if_pos c13] at H
            have c13b0 : decide (0 < (x0_1.length : Int)) = true := decide_eq_true c13
            have c13b1 : decide (0 < x0_1.length) = true := decide_eq_true (by omega)
            clear c13
            by_cases c14 : (rd x0_1 0) = 0
            · rw [if_pos c14] at H
              have c14b0 : ((rd x0_1 0) == 0) = true := beq_iff_eq.mpr c14
              have c14b1 : ((rd x0_1 0) != 0) = false := bne_eq_false_iff_eq.mpr c14
              clear c14
              obtain ⟨y233,hy233⟩ : ∃ y_ : List Int,y_ = (([239,191,189] : List Int)) := ⟨_,rfl⟩
              replace H : (if x3_1.length + y233.length < 140737488355328 then (if 1 ≤ (x0_1.length : Int) then (incipitref01_Clean.l0 k1 (x0_1.drop 1) (x3_1 ++ y233)) else (none)) else (none)) = some r := by first | (rw [hy233];with_reducible exact H) | (have H2_ := (Option.bind_some _ _).symm.trans H;rw [hy233];with_reducible exact H2_) | (have H2_ := (Option.bind_some _ _).symm.trans H;with_reducible exact H2_) | with_reducible exact H | (rw [hy233];exact H) | exact H
              have Ny233 := Aside0.mk hy233
              clear hy233
              by_cases c15 : x3_1.length + y233.length < 140737488355328
              · rw [if_pos c15] at H
                have LMc15 := Aside0.mk c15
                clear c15
                obtain ⟨y236,hy236⟩ : ∃ y_ : List Int,y_ = (x3_1 ++ y233) := ⟨_,rfl⟩
                replace H : (if 1 ≤ (x0_1.length : Int) then (incipitref01_Clean.l0 k1 (x0_1.drop 1) y236) else (none)) = some r := by first | (rw [hy236];with_reducible exact H) | (have H2_ := (Option.bind_some _ _).symm.trans H;rw [hy236];with_reducible exact H2_) | (have H2_ := (Option.bind_some _ _).symm.trans H;with_reducible exact H2_) | with_reducible exact H | (rw [hy236];exact H) | exact H
                have Ny236 := Aside0.mk hy236
                clear hy236
                by_cases c16 : 1 ≤ (x0_1.length : Int)
                · rw [if_pos c16] at H
                  have c16b0 := eq_true c16
                  have c16b1 : decide (1 ≤ (x0_1.length : Int)) = true := decide_eq_true c16
                  clear c16
                  obtain ⟨y239,hy239⟩ : ∃ y_ : List Int,y_ = (x0_1.drop 1) := ⟨_,rfl⟩
                  replace H : (incipitref01_Clean.l0 k1 y239 y236) = some r := by first | (rw [hy239];with_reducible exact H) | (have H2_ := (Option.bind_some _ _).symm.trans H;rw [hy239];with_reducible exact H2_) | (have H2_ := (Option.bind_some _ _).symm.trans H;with_reducible exact H2_) | with_reducible exact H | (rw [hy239];exact H) | exact H
                  have Ny239 := Aside0.mk hy239
                  clear hy239
                  have H' := Aside0.mk H
                  clear H
                  obtain ⟨Ao17,co17,eo17⟩ := Kd.V_slice HO_0.out
                  subst eo17
                  go_wp2_with (first | ((with_reducible refine gate_callee (f := 94) rfl ?_);refine goesL_ (some 9) rfl rfl Tryz.func94 (by kernel_rfl) rfl #[.slice Ao17 x0_1.length co17] rfl (by (try simp only [List.map_toArray,List.map_cons,List.map_nil]);first | done | rfl | (simp only [List.length_drop,List.length_take];rfl)) ?_;(with_reducible refine (incipitref01_good.calls k1 _ _ x0_1 t220 _ ?side1 ?side2 A3.out).mono ?_);(case side1 => repeat (first | exact (Kd.V_reads' HO_0.out).2.2 | (with_reducible refine Kd.C_alloc ?_ _) | (with_reducible refine Kd.C_drewN ?_ _) | (with_reducible refine Kd.C_drew ?_)));(case side2 => exact (Kd.V_reads' HO_0.out).2.1);rintro e w' ⟨rfl,⟨nd,rfl⟩⟩;refine ⟨_,rfl,?_⟩;have p232 : 0 ≤ (0 : Int) := (by omega);have q232 : 0 < (x0_1.length : Int) := of_decide_eq_true (by first | (with_reducible assumption) | assumption);obtain ⟨ad232,e232,hx232_0⟩ := Kd.at_int (Kd.V_reads' HO_0.out).2.2 0 p232 q232;cases e232;have qi232 : (0 < x0_1.length) = True := eq_true (by omega);(try rw [show ((0 : Int)).toNat = 0 from rfl] at hx232_0);(try rw [Addr.add_zero'] at hx232_0);replace p232 := eq_true p232;replace q232 := eq_true q232) | ((with_reducible refine gate_dst (N := 19) rfl ?_);refine Kd.R_lit (Kd.int .u8) _ 5 ?hg (N := 19) ?hd (xs := ([239,191,189] : List Int)) (inner := [.int .u8 239,.int .u8 191,.int .u8 189]) (ok := fun _ => True) (okp := fun _ => True) ?hr ?hp (fun _ hk => hk) trivial (Below.refl _ _) (Nat.le_refl _) (by simp) ?_;(case hd => rfl);(case hg => rfl);(case hr => first | (go_simp;done) | (go_simp;rfl));(case hp => exact (Reps.one (show Kd.M (Kd.int .u8) _ _ _ 239 [.int .u8 239] from rfl) (Reps.one (show Kd.M (Kd.int .u8) _ _ _ 191 [.int .u8 191] from rfl) (Reps.one (show Kd.M (Kd.int .u8) _ _ _ 189 [.int .u8 189] from rfl) (Reps.none _ _)))));intro v234 w18 ho19 hb hg_ hnew_;clear hg_ hnew_;(first | rw [← Ny233.out] at ho19 | (simp only [Int.reduceToNat] at ho19;rw [← Ny233.out] at ho19));have n0_ := Aside0.mk (Kd.V_elder' (by (with_reducible repeat (first | apply Kd.V_alloc | apply Kd.V_drewN | apply Kd.V_drew));exact HO_0.out) (Kd.R_base ho19) hb);have n1_ := Aside0.mk (Kd.R_elder' (by (with_reducible repeat (first | apply Kd.R_alloc | apply Kd.R_drewN | apply Kd.R_drew));exact HO_3.out) (Kd.R_base ho19) hb);have n2_ := Aside0.mk (Kd.R_lower (Kd.R_new' (Kd.R_newM (M := fun k_ => (w.heap.size ≤ k_)) ho19 (below_size (by repeat (first | (with_reducible first | exact HB.out | apply below_alloc | apply pw_below_drewN | apply below_drew1) | exact HB.out))) (fun k_ h_ => h_)) (Kd.R_lt (by (with_reducible repeat (first | apply Kd.R_alloc | apply Kd.R_drewN | apply Kd.R_drew));exact HO_3.out))) (below_size (by repeat (first | (with_reducible first | exact HB.out | apply below_alloc | apply pw_below_drewN | apply below_drew1) | exact HB.out))));have n3_ := Aside0.mk (below_step (by repeat (first | (with_reducible first | exact HB.out | apply below_alloc | apply pw_below_drewN | apply below_drew1) | exact HB.out)) hb);clear HO_0;clear HO_3;clear HB;have HO_0 := n0_;have HO_3 := n1_;have HO235 := n2_;have HB := n3_;clear n0_ n1_ n2_ n3_;clear hb ho19;obtain ⟨Ao21,co21,eo21⟩ := Kd.R_slice HO235.out;subst eo21) | ((with_reducible refine gate_builtin (b := .append) (xs := #[.tmp 18,.tmp 19]) rfl ?_);at_builtin;refine Kd.R_append_rows (Kd.int .u8) (w0 := w) w.heap.size rfl (.tmp 18) (.tmp 19) 60 5 (.int .u8 0) 1 rfl Tryz.underlying60 info5 rfl (by decide) (by omega) u3 x3_1 y233 _ _ _ (fun k_ => (w.heap.size ≤ k_) ∧ some k_ ≠ (.slice Ao21 y233.length co21 : Value).ownBlock) (fun _ => False) rfl rfl ?aO ?aR (fun _ _ h => h) (fun _ h => h.elim) ?aF ?aB ?aS ?aL ?_;(case aR => repeat (first | exact (Kd.R_reads' HO235.out).2.2 | (with_reducible refine Kd.C_alloc ?_ _) | (with_reducible refine Kd.C_drewN ?_ _) | (with_reducible refine Kd.C_drew ?_)));(case aB => exact (by repeat (first | (with_reducible first | exact HB.out | apply below_alloc | apply pw_below_drewN | apply below_drew1) | exact HB.out)));(case aF => exact (fun k_ hk => ⟨(Nat.le_trans (below_size (by repeat (first | (with_reducible first | exact HB.out | apply below_alloc | apply pw_below_drewN | apply below_drew1) | exact HB.out))) hk),Kd.fresh' (Kd.R_lt (by (with_reducible repeat (first | apply Kd.R_alloc | apply Kd.R_drewN | apply Kd.R_drew));exact HO235.out)) k_ hk⟩));(case aO => exact (by (with_reducible repeat (first | apply Kd.R_alloc | apply Kd.R_drewN | apply Kd.R_drew));exact HO_3.out));(case aS => exact (below_size (by repeat (first | (with_reducible first | exact HB.out | apply below_alloc | apply pw_below_drewN | apply below_drew1) | exact HB.out))));(case aL => have := LMc15.out;omega);intro v237 w20 ho hb hg hat;rw [← Ny236.out] at ho;have n0_ := Aside0.mk (Kd.V_afterv (ok := (fun k_ => (P0_ k_ ∨ w.heap.size ≤ k_) ∧ some k_ ≠ (.slice Ao21 y233.length co21 : Value).ownBlock)) (by (with_reducible repeat (first | apply Kd.V_alloc | apply Kd.V_drewN | apply Kd.V_drew));exact Kd.V_mono HO_0.out (fun _ hk => ⟨⟨hk.1.1,hk.2⟩,hk.1.2⟩)) hg hat);have n1_ := Aside0.mk (Kd.R_after (ok := (fun k_ => (w.heap.size ≤ k_))) (by (with_reducible repeat (first | apply Kd.R_alloc | apply Kd.R_drewN | apply Kd.R_drew));exact Kd.R_mono HO235.out (fun _ hk => ⟨hk.1.1,hk.2⟩)) hg hat);have n2_ := Aside0.mk (hb);have n3_ := Aside0.mk (ho);clear HO_0;clear HO235;clear HB;clear HO_3;have HO_0 := n0_;have HO235 := n1_;have HB := n2_;have HO238 := n3_;clear n0_ n1_ n2_ n3_;clear ho hb hg hat;have q22 : (1 : Int) ≤ ((x0_1.length : Int) : Int) := of_decide_eq_true (by first | (with_reducible assumption) | assumption);obtain ⟨i022,hi022,_,hsz22,_⟩ := info_parts info5;have hroom22 : x0_1.length ≤ co17 := (Kd.V_reads' HO_0.out).2.1;have hC22 : Kd.F (Kd.int .u8) _ _ (some ad232) x0_1.length x0_1 := (Kd.V_at (base := w.heap.size) HO_0.out).2.2;have hcut22 := cut_from (P := Tryz.prog) 60 5 .i64 Tryz.underlying60 hi022 1 hsz22 (some ad232) x0_1.length co17 1 (by omega) q22;have hr22 := Kd.F_cut (m := (1 : Int).toNat) (c := co17) hC22 (by omega) hroom22;obtain ⟨A22,hA22⟩ : ∃ A1,A1 = (if co17 = (1 : Int).toNat then (some ad232) else ((some ad232) : Option Addr).map (·.add ((1 : Int).toNat * 1))) := ⟨_,rfl⟩;obtain ⟨c22,hc22⟩ : ∃ c1,c1 = co17 - (1 : Int).toNat := ⟨_,rfl⟩;have hy22 : y239.length = x0_1.length - (1 : Int).toNat := (by rw [Ny239.out,List.length_drop] <;> omega);rw [show (x0_1).drop (1 : Int).toNat = y239 from Ny239.out.symm] at hr22;replace hr22 : Kd.F (Kd.int .u8) _ _ A22 y239.length y239 := (by rw [hA22];exact hr22);rw [← hy22,← hA22,← hc22] at hcut22;have HO243 := Aside0.mk (show Kd.V (Kd.int .u8) 5 _ w.heap.size _ (.slice A22 y239.length c22) y239 from Kd.V_mk (by rw [hy22,hc22];exact Nat.sub_le_sub_right hroom22 _) hr22);have HC243 := Aside0.mk (show y239.length ≤ c22 from by rw [hy22,hc22];exact Nat.sub_le_sub_right hroom22 _);clear hr22 hC22 hroom22 hi022 hsz22 hc22;have KY22 := Aside0.mk hy22;have KA22 := Aside0.mk hA22;clear hy22 hA22;replace q22 := eq_true q22))
                  go_roundg k1
                  case measure => have := HK1.out;omega
                  case rel => exact ⟨(y239),(y236),H',⟨by have := HK1.out;omega⟩,⟨by (with_reducible repeat (first | apply Kd.V_alloc | apply Kd.V_drewN | apply Kd.V_drew));exact Kd.V_mono HO243.out (fun _ hk => ⟨hk.1.1,hk.2⟩)⟩,⟨by (with_reducible repeat (first | apply Kd.R_alloc | apply Kd.R_drewN | apply Kd.R_drew));exact Kd.R_mono HO238.out (fun _ hk => hk.1)⟩,⟨by repeat (first | (with_reducible first | exact HB.out | apply below_alloc | apply pw_below_drewN | apply below_drew1) | exact HB.out)⟩⟩
                · rw [if_neg c16] at H
                  exact absurd H (by simp)
              · rw [if_neg c15] at H
                exact absurd H (by simp)
            · rw [if_neg c14] at H
              have c14b0 : ((rd x0_1 0) == 0) = false := beq_eq_false_iff_ne.mpr c14
              have c14b1 : ((rd x0_1 0) != 0) = true := bne_iff_ne.mpr c14
              by_cases c23 : 0 ≤ t220
              · rw [if_pos c23] at H
                have c23b0 := eq_true c23
                have c23b1 : decide (0 ≤ t220) = true := decide_eq_true c23
                clear c23
                by_cases c24 : t220 ≤ (x0_1.length : Int)
                · rw [if_pos c24] at H
                  have c24b0 := eq_true c24
                  have c24b1 : decide (t220 ≤ (x0_1.length : Int)) = true := decide_eq_true c24
                  clear c24
                  obtain ⟨y244,hy244⟩ : ∃ y_ : List Int,y_ = (x0_1.take (t220 : Int).toNat) := ⟨_,rfl⟩
                  replace H : (if x3_1.length + y244.length < 140737488355328 then (incipitref01_Clean.l0 k1 (x0_1.drop (t220 : Int).toNat) (x3_1 ++ y244)) else (none)) = some r := by first | (rw [hy244];with_reducible exact H) | (have H2_ := (Option.bind_some _ _).symm.trans H;rw [hy244];with_reducible exact H2_) | (have H2_ := (Option.bind_some _ _).symm.trans H;with_reducible exact H2_) | with_reducible exact H | (rw [hy244];exact H) | exact H
                  have Ny244 := Aside0.mk hy244
                  clear hy244
                  by_cases c25 : x3_1.length + y244.length < 140737488355328
                  · rw [if_pos c25] at H
                    have LMc25 := Aside0.mk c25
                    clear c25
                    obtain ⟨y249,hy249⟩ : ∃ y_ : List Int,y_ = (x3_1 ++ y244) := ⟨_,rfl⟩
                    replace H : (incipitref01_Clean.l0 k1 (x0_1.drop (t220 : Int).toNat) y249) = some r := by first | (rw [hy249];with_reducible exact H) | (have H2_ := (Option.bind_some _ _).symm.trans H;rw [hy249];with_reducible exact H2_) | (have H2_ := (Option.bind_some _ _).symm.trans H;with_reducible exact H2_) | with_reducible exact H | (rw [hy249];exact H) | exact H
                    have Ny249 := Aside0.mk hy249
                    clear hy249
                    have c26b0 := eq_true (of_decide_eq_true (by first | (with_reducible assumption) | assumption) : 0 ≤ t220)
                    have c27b0 := eq_true (of_decide_eq_true (by first | (with_reducible assumption) | assumption) : t220 ≤ (x0_1.length : Int))
                    obtain ⟨y252,hy252⟩ : ∃ y_ : List Int,y_ = (x0_1.drop (t220 : Int).toNat) := ⟨_,rfl⟩
                    replace H : (incipitref01_Clean.l0 k1 y252 y249) = some r := by first | (rw [hy252];with_reducible exact H) | (have H2_ := (Option.bind_some _ _).symm.trans H;rw [hy252];with_reducible exact H2_) | (have H2_ := (Option.bind_some _ _).symm.trans H;with_reducible exact H2_) | with_reducible exact H | (rw [hy252];exact H) | exact H
                    have Ny252 := Aside0.mk hy252
                    clear hy252
                    have H' := Aside0.mk H
                    clear H
                    obtain ⟨Ao28,co28,eo28⟩ := Kd.V_slice HO_0.out
                    subst eo28
                    go_wp2_with (first | ((with_reducible refine gate_callee (f := 94) rfl ?_);refine goesL_ (some 9) rfl rfl Tryz.func94 (by kernel_rfl) rfl #[.slice Ao28 x0_1.length co28] rfl (by (try simp only [List.map_toArray,List.map_cons,List.map_nil]);first | done | rfl | (simp only [List.length_drop,List.length_take];rfl)) ?_;(with_reducible refine (incipitref01_good.calls k1 _ _ x0_1 t220 _ ?side1 ?side2 A3.out).mono ?_);(case side1 => repeat (first | exact (Kd.V_reads' HO_0.out).2.2 | (with_reducible refine Kd.C_alloc ?_ _) | (with_reducible refine Kd.C_drewN ?_ _) | (with_reducible refine Kd.C_drew ?_)));(case side2 => exact (Kd.V_reads' HO_0.out).2.1);rintro e w' ⟨rfl,⟨nd,rfl⟩⟩;refine ⟨_,rfl,?_⟩;have p232 : 0 ≤ (0 : Int) := (by omega);have q232 : 0 < (x0_1.length : Int) := of_decide_eq_true (by first | (with_reducible assumption) | assumption);obtain ⟨ad232,e232,hx232_0⟩ := Kd.at_int (Kd.V_reads' HO_0.out).2.2 0 p232 q232;cases e232;have qi232 : (0 < x0_1.length) = True := eq_true (by omega);(try rw [show ((0 : Int)).toNat = 0 from rfl] at hx232_0);(try rw [Addr.add_zero'] at hx232_0);replace p232 := eq_true p232;replace q232 := eq_true q232;have q29 : (t220 : Int) ≤ ((x0_1.length : Int) : Int) := of_decide_eq_true (by first | (with_reducible assumption) | assumption);obtain ⟨i029,hi029,_,hsz29,_⟩ := info_parts info5;have hroom29 : x0_1.length ≤ co28 := (Kd.V_reads' HO_0.out).2.1;have hC29 : Kd.F (Kd.int .u8) _ _ (some ad232) x0_1.length x0_1 := (Kd.V_at (base := w.heap.size) HO_0.out).2.2;have hcut29 := cut_to (P := Tryz.prog) 60 5 .i64 Tryz.underlying60 hi029 (some ad232) x0_1.length co28 t220 (of_decide_eq_true (by first | (with_reducible assumption) | assumption)) q29 hroom29;have hr29 := Kd.F_take (m := (t220 : Int).toNat) hC29 (by omega);have hy29 : y244.length = (t220 : Int).toNat := (by rw [Ny244.out,List.length_take];omega);rw [← Ny244.out] at hr29;rw [← hy29] at hcut29;have HO248 := Aside0.mk (show Kd.V (Kd.int .u8) 5 _ w.heap.size _ (.slice (some ad232) y244.length co28) y244 from Kd.V_mk (by omega) hr29);have HC248 := Aside0.mk (show y244.length ≤ co28 from by omega);clear hr29 hC29 hroom29 hi029 hsz29;have KY29 := Aside0.mk hy29;clear hy29;replace q29 := eq_true q29) | ((with_reducible refine gate_builtin (b := .append) (xs := #[.tmp 21,.tmp 24]) rfl ?_);at_builtin;refine Kd.R_append_rows (Kd.int .u8) (w0 := w) w.heap.size rfl (.tmp 21) (.tmp 24) 60 5 (.int .u8 0) 1 rfl Tryz.underlying60 info5 rfl (by decide) (by omega) u3 x3_1 y244 _ _ _ (fun k_ => (w.heap.size ≤ k_)) (fun _ => False) rfl rfl ?aO ?aR (fun _ _ h => h) (fun _ h => h.elim) ?aF ?aB ?aS ?aL ?_;(case aR => repeat (first | exact (Kd.V_reads' HO248.out).2.2 | (with_reducible refine Kd.C_alloc ?_ _) | (with_reducible refine Kd.C_drewN ?_ _) | (with_reducible refine Kd.C_drew ?_)));(case aB => exact (by repeat (first | (with_reducible first | exact HB.out | apply below_alloc | apply pw_below_drewN | apply below_drew1) | exact HB.out)));(case aF => exact (fun k_ hk => (Nat.le_trans (below_size (by repeat (first | (with_reducible first | exact HB.out | apply below_alloc | apply pw_below_drewN | apply below_drew1) | exact HB.out))) hk)));(case aO => exact (by (with_reducible repeat (first | apply Kd.R_alloc | apply Kd.R_drewN | apply Kd.R_drew));exact HO_3.out));(case aS => exact (below_size (by repeat (first | (with_reducible first | exact HB.out | apply below_alloc | apply pw_below_drewN | apply below_drew1) | exact HB.out))));(case aL => have := LMc25.out;omega);intro v250 w30 ho hb hg hat;rw [← Ny249.out] at ho;have n0_ := Aside0.mk (Kd.V_afterv (ok := (fun k_ => (P0_ k_ ∨ w.heap.size ≤ k_))) (by (with_reducible repeat (first | apply Kd.V_alloc | apply Kd.V_drewN | apply Kd.V_drew));exact HO_0.out) hg hat);have n1_ := Aside0.mk (Kd.V_afterv (ok := (fun k_ => (P0_ k_ ∨ w.heap.size ≤ k_))) (by (with_reducible repeat (first | apply Kd.V_alloc | apply Kd.V_drewN | apply Kd.V_drew));exact HO248.out) hg hat);have n2_ := Aside0.mk (hb);have n3_ := Aside0.mk (ho);clear HO_0;clear HO248;clear HB;clear HO_3;have HO_0 := n0_;have HO248 := n1_;have HB := n2_;have HO251 := n3_;clear n0_ n1_ n2_ n3_;clear ho hb hg hat;have q31 : (t220 : Int) ≤ ((x0_1.length : Int) : Int) := of_decide_eq_true (by first | (with_reducible assumption) | assumption);obtain ⟨i031,hi031,_,hsz31,_⟩ := info_parts info5;have hroom31 : x0_1.length ≤ co28 := (Kd.V_reads' HO_0.out).2.1;have hC31 : Kd.F (Kd.int .u8) _ _ (some ad232) x0_1.length x0_1 := (Kd.V_at (base := w.heap.size) HO_0.out).2.2;have q031 : (0 : Int) ≤ (t220 : Int) := of_decide_eq_true (by first | (with_reducible assumption) | assumption);have hcut31 := cut_from (P := Tryz.prog) 60 5 .i64 Tryz.underlying60 hi031 1 hsz31 (some ad232) x0_1.length co28 t220 q031 q31;have hr31 := Kd.F_cut (m := (t220 : Int).toNat) (c := co28) hC31 (by omega) hroom31;obtain ⟨A31,hA31⟩ : ∃ A1,A1 = (if co28 = (t220 : Int).toNat then (some ad232) else ((some ad232) : Option Addr).map (·.add ((t220 : Int).toNat * 1))) := ⟨_,rfl⟩;obtain ⟨c31,hc31⟩ : ∃ c1,c1 = co28 - (t220 : Int).toNat := ⟨_,rfl⟩;have hy31 : y252.length = x0_1.length - (t220 : Int).toNat := (by rw [Ny252.out,List.length_drop] <;> omega);rw [show (x0_1).drop (t220 : Int).toNat = y252 from Ny252.out.symm] at hr31;replace hr31 : Kd.F (Kd.int .u8) _ _ A31 y252.length y252 := (by rw [hA31];exact hr31);rw [← hy31,← hA31,← hc31] at hcut31;have HO256 := Aside0.mk (show Kd.V (Kd.int .u8) 5 _ w.heap.size _ (.slice A31 y252.length c31) y252 from Kd.V_mk (by rw [hy31,hc31];exact Nat.sub_le_sub_right hroom31 _) hr31);have HC256 := Aside0.mk (show y252.length ≤ c31 from by rw [hy31,hc31];exact Nat.sub_le_sub_right hroom31 _);clear hr31 hC31 hroom31 hi031 hsz31 hc31;have KY31 := Aside0.mk hy31;have KA31 := Aside0.mk hA31;clear hy31 hA31;replace q31 := eq_true q31))
                    go_roundg k1
                    case measure => have := HK1.out;omega
                    case rel => exact ⟨(y252),(y249),H',⟨by have := HK1.out;omega⟩,⟨by (with_reducible repeat (first | apply Kd.V_alloc | apply Kd.V_drewN | apply Kd.V_drew));exact HO256.out⟩,⟨by (with_reducible repeat (first | apply Kd.R_alloc | apply Kd.R_drewN | apply Kd.R_drew));exact HO251.out⟩,⟨by repeat (first | (with_reducible first | exact HB.out | apply below_alloc | apply pw_below_drewN | apply below_drew1) | exact HB.out)⟩⟩
                  · rw [if_neg c25] at H
                    exact absurd H (by simp)
                · rw [if_neg c24] at H
                  exact absurd H (by simp)
              · rw [if_neg c23] at H
                exact absurd H (by simp)
          · rw [if_neg c13] at H
            exact absurd H (by simp)
      · rw [if_neg c2] at H
        have c2b0 : decide (0 < (x0_1.length : Int)) = false := decide_eq_false c2
        have c2b1 : decide (0 < x0_1.length) = false := decide_eq_false (by omega)
        clear c2
        obtain rfl := Option.some.inj H
        obtain ⟨Ao32,co32,eo32⟩ := Kd.V_slice HO_0.out
        subst eo32
        have hcv33 := own_string (P := Tryz.prog) Tryz.underlying60 Tryz.underlying5 Tryz.underlying9 (Kd.own_of_R HO_3.out)
        go_wp2
        go_ret
        exact ⟨by first | rfl | (simp [errW_none,errW_some] <;> rfl) | (simp [*,errW_none,errW_some] <;> rfl),by repeat (first | (with_reducible first | exact HB.out | apply below_alloc | apply pw_below_drewN | apply below_drew1) | exact HB.out)⟩


end Go.Proofs.YtekifcbokdidlaaGreatDoor.PA

namespace Go.Proofs.YtekifcbokdidlaaGreatDoor.Pl
open Go.RowKit Go.Proofs.YtekifcbokdidlaaGreatDoorW.PrintWords Go.Proofs.YtekifcbokdidlaaGreatDoorW.PrintMore Go.Proofs.YtekifcbokdidlaaGreatDoor.PA

/-- Whether a text of n bytes begins with a character, and how many bytes it is: by the bytes' ranges. -/
def gN (n b0 b1 b2 b3 : Nat) : Nat :=
 if b0 ≤ 127 then 1 else if (194 ≤ b0 ∧ b0 ≤ 223) ∧ (1 < n ∧ 128 ≤ b1 ∧ b1 ≤ 191) then 2 else if ¬ (2 < n ∧ 128 ≤ b2 ∧ b2 ≤ 191) then 0
 else if (b0 = 224 ∧ 1 < n ∧ 160 ≤ b1 ∧ b1 ≤ 191) ∨ (b0 = 237 ∧ 1 < n ∧ 128 ≤ b1 ∧ b1 ≤ 159) ∨ ((225 ≤ b0 ∧ b0 ≤ 236 ∨ 238 ≤ b0 ∧ b0 ≤ 239) ∧ 1 < n ∧ 128 ≤ b1 ∧ b1 ≤ 191) then 3
 else if ¬ (3 < n ∧ 128 ≤ b3 ∧ b3 ≤ 191) then 0
 else if (b0 = 240 ∧ 144 ≤ b1 ∧ b1 ≤ 191) ∨ ((241 ≤ b0 ∧ b0 ≤ 243) ∧ 128 ≤ b1 ∧ b1 ≤ 191) ∨ (b0 = 244 ∧ 128 ≤ b1 ∧ b1 ≤ 143) then 4 else 0
set_option maxHeartbeats 4000000 in
/-- The decoder and the ranges say the same, the character's number with it. -/
theorem gN_dec (n b0 b1 b2 b3 : Nat) (h0 : b0 < 256) (h1 : b1 < 256) (h2 : b2 < 256) (h3 : b3 < 256) :
  (gN n b0 b1 b2 b3 = 0 ∧ Lib.decodeN n b0 b1 b2 b3 = (65533,1) ∧ 128 ≤ b0) ∨
  (gN n b0 b1 b2 b3 = 1 ∧ Lib.decodeN n b0 b1 b2 b3 = (b0,1) ∧ b0 ≤ 127) ∨
  (gN n b0 b1 b2 b3 = 2 ∧ Lib.decodeN n b0 b1 b2 b3 = ((b0 - 192) * 64 + b1 - 128,2) ∧ 1 < n ∧ 194 ≤ b0 ∧ b0 ≤ 223 ∧ 128 ≤ b1 ∧ b1 ≤ 191) ∨
  (gN n b0 b1 b2 b3 = 3 ∧ Lib.decodeN n b0 b1 b2 b3 = (((b0 - 224) * 64 + b1 - 128) * 64 + b2 - 128,3) ∧ 2 < n ∧ 224 ≤ b0 ∧ b0 ≤ 239 ∧ 128 ≤ b1 ∧ b1 ≤ 191 ∧ 128 ≤ b2 ∧ b2 ≤ 191) ∨
  (gN n b0 b1 b2 b3 = 4 ∧ Lib.decodeN n b0 b1 b2 b3 = ((((b0 - 240) * 64 + b1 - 128) * 64 + b2 - 128) * 64 + b3 - 128,4) ∧ 3 < n ∧ 240 ≤ b0 ∧ b0 ≤ 244 ∧ 128 ≤ b1 ∧ b1 ≤ 191 ∧ 128 ≤ b2 ∧ b2 ≤ 191 ∧ 128 ≤ b3 ∧ b3 ≤ 191) := by
 by_cases c0 : b0 ≤ 127
 ·exact .inr (.inl ⟨by unfold gN;rw [if_pos c0],by unfold Lib.decodeN;rw [if_pos (show b0 < 128 by omega)],c0⟩)
 ·have k0 : ¬ b0 < 128 := by omega
  by_cases c1 : (194 ≤ b0 ∧ b0 ≤ 223) ∧ (1 < n ∧ 128 ≤ b1 ∧ b1 ≤ 191)
  ·have k1 : b0 / 32 = 6 ∧ (1 < n ∧ b1 / 64 = 2) := by omega
   have k2 : b0 % 32 * 64 + b1 % 64 ≥ 128 := by omega
   have e : b0 % 32 * 64 + b1 % 64 = (b0 - 192) * 64 + b1 - 128 := by omega
   exact .inr (.inr (.inl ⟨by unfold gN;rw [if_neg c0,if_pos c1],by unfold Lib.decodeN;rw [if_neg k0,if_pos k1,if_pos k2,e],by omega⟩))
  ·by_cases c2 : ¬ (2 < n ∧ 128 ≤ b2 ∧ b2 ≤ 191)
   ·refine .inl ⟨by unfold gN;rw [if_neg c0,if_neg c1,if_pos c2],?_,by omega⟩
    have k3 : ¬ (b0 / 16 = 14 ∧ (1 < n ∧ b1 / 64 = 2) ∧ (2 < n ∧ b2 / 64 = 2)) := by omega
    have k4 : ¬ (b0 / 8 = 30 ∧ (1 < n ∧ b1 / 64 = 2) ∧ (2 < n ∧ b2 / 64 = 2) ∧ (3 < n ∧ b3 / 64 = 2)) := by omega
    unfold Lib.decodeN
    rw [if_neg k0,if_neg k3,if_neg k4]
    split
    ·rw [if_neg (by omega)]
    ·rfl
   ·by_cases c3 : (b0 = 224 ∧ 1 < n ∧ 160 ≤ b1 ∧ b1 ≤ 191) ∨ (b0 = 237 ∧ 1 < n ∧ 128 ≤ b1 ∧ b1 ≤ 159) ∨ ((225 ≤ b0 ∧ b0 ≤ 236 ∨ 238 ≤ b0 ∧ b0 ≤ 239) ∧ 1 < n ∧ 128 ≤ b1 ∧ b1 ≤ 191)
    ·have k1 : ¬ (b0 / 32 = 6 ∧ (1 < n ∧ b1 / 64 = 2)) := by omega
     have k3 : b0 / 16 = 14 ∧ (1 < n ∧ b1 / 64 = 2) ∧ (2 < n ∧ b2 / 64 = 2) := by omega
     have e : b0 % 16 * 4096 + b1 % 64 * 64 + b2 % 64 = ((b0 - 224) * 64 + b1 - 128) * 64 + b2 - 128 := by omega
     have k5 : b0 % 16 * 4096 + b1 % 64 * 64 + b2 % 64 ≥ 2048 ∧ (b0 % 16 * 4096 + b1 % 64 * 64 + b2 % 64 < 55296 ∨ (57344 ≤ b0 % 16 * 4096 + b1 % 64 * 64 + b2 % 64 ∧ b0 % 16 * 4096 + b1 % 64 * 64 + b2 % 64 ≤ 1114111)) := by omega
     exact .inr (.inr (.inr (.inl ⟨by unfold gN;rw [if_neg c0,if_neg c1,if_neg c2,if_pos c3],by unfold Lib.decodeN;rw [if_neg k0,if_neg k1,if_pos k3,if_pos k5,e],by omega⟩)))
    ·by_cases c4 : ¬ (3 < n ∧ 128 ≤ b3 ∧ b3 ≤ 191)
     ·refine .inl ⟨by unfold gN;rw [if_neg c0,if_neg c1,if_neg c2,if_neg c3,if_pos c4],?_,by omega⟩
      have k4 : ¬ (b0 / 8 = 30 ∧ (1 < n ∧ b1 / 64 = 2) ∧ (2 < n ∧ b2 / 64 = 2) ∧ (3 < n ∧ b3 / 64 = 2)) := by omega
      unfold Lib.decodeN
      rw [if_neg k0,if_neg k4]
      split
      ·rw [if_neg (by omega)]
      ·split
       ·rw [if_neg (by omega)]
       ·rfl
     ·by_cases c5 : (b0 = 240 ∧ 144 ≤ b1 ∧ b1 ≤ 191) ∨ ((241 ≤ b0 ∧ b0 ≤ 243) ∧ 128 ≤ b1 ∧ b1 ≤ 191) ∨ (b0 = 244 ∧ 128 ≤ b1 ∧ b1 ≤ 143)
      ·have k1 : ¬ (b0 / 32 = 6 ∧ (1 < n ∧ b1 / 64 = 2)) := by omega
       have k3 : ¬ (b0 / 16 = 14 ∧ (1 < n ∧ b1 / 64 = 2) ∧ (2 < n ∧ b2 / 64 = 2)) := by omega
       have k4 : b0 / 8 = 30 ∧ (1 < n ∧ b1 / 64 = 2) ∧ (2 < n ∧ b2 / 64 = 2) ∧ (3 < n ∧ b3 / 64 = 2) := by omega
       have e : b0 % 8 * 262144 + b1 % 64 * 4096 + b2 % 64 * 64 + b3 % 64 = (((b0 - 240) * 64 + b1 - 128) * 64 + b2 - 128) * 64 + b3 - 128 := by omega
       have k5 : b0 % 8 * 262144 + b1 % 64 * 4096 + b2 % 64 * 64 + b3 % 64 ≥ 65536 ∧ (b0 % 8 * 262144 + b1 % 64 * 4096 + b2 % 64 * 64 + b3 % 64 < 55296 ∨ (57344 ≤ b0 % 8 * 262144 + b1 % 64 * 4096 + b2 % 64 * 64 + b3 % 64 ∧ b0 % 8 * 262144 + b1 % 64 * 4096 + b2 % 64 * 64 + b3 % 64 ≤ 1114111)) := by omega
       exact .inr (.inr (.inr (.inr ⟨by unfold gN;rw [if_neg c0,if_neg c1,if_neg c2,if_neg c3,if_neg c4,if_pos c5],by unfold Lib.decodeN;rw [if_neg k0,if_neg k1,if_neg k3,if_pos k4,if_pos k5,e],by omega⟩)))
      ·refine .inl ⟨by unfold gN;rw [if_neg c0,if_neg c1,if_neg c2,if_neg c3,if_neg c4,if_neg c5],?_,by omega⟩
       unfold Lib.decodeN
       rw [if_neg k0]
       split
       ·rw [if_neg (by omega)]
       ·split
        ·rw [if_neg (by omega)]
        ·split
         ·rw [if_neg (by omega)]
         ·rfl
/-- Numbers of bytes. -/
def nms (l : List UInt8) : List Int := l.map fun x => (x.toNat : Int)
theorem nms_len (l : List UInt8) : (nms l).length = l.length := by simp [nms]
theorem nms_rd (l : List UInt8) (i : Nat) : rd (nms l) (i : Int) = ((l.getD i 0).toNat : Int) := by
  unfold rd nms
  rw [Int.toNat_natCast,List.getD_eq_getElem?_getD,List.getElem?_map,List.getD_eq_getElem?_getD]
  cases l[i]? <;> rfl
theorem btw_eq (l : List UInt8) (i : Nat) (lo hi : Nat) : incipitref01_between.f (nms l) (i : Int) (lo : Int) (hi : Int) = some (decide (i < l.length ∧ lo ≤ (l.getD i 0).toNat ∧ (l.getD i 0).toNat ≤ hi)) := by
  unfold incipitref01_between.f
  rw [nms_len,nms_rd]
  by_cases h : i < l.length
  · rw [if_pos (by omega),if_pos (by omega)]
    by_cases h2 : lo ≤ (l.getD i 0).toNat
    · rw [if_pos (by omega)]
      congr 1
      exact decide_eq_decide.2 (by omega)
    · rw [if_neg (by omega),decide_eq_false (by omega)]
  · rw [if_neg (by omega),decide_eq_false (by omega)]
end Go.Proofs.YtekifcbokdidlaaGreatDoor.Pl

namespace Go.Proofs.YtekifcbokdidlaaGreatDoor.Pl
open Go.RowKit Go.Proofs.YtekifcbokdidlaaGreatDoorW.PrintWords Go.Proofs.YtekifcbokdidlaaGreatDoorW.PrintMore Go.Proofs.YtekifcbokdidlaaGreatDoor.PA

set_option maxHeartbeats 8000000 in
theorem good_eq (l : List UInt8) (h : l ≠ []) (k : Nat) : incipitref01_good.f (k + 7) (nms l) = some ((gN l.length (l.getD 0 0).toNat (l.getD 1 0).toNat (l.getD 2 0).toNat (l.getD 3 0).toNat : Nat) : Int) := by
 have hn : 0 < l.length := List.length_pos_iff.2 h
 have F0 : ∀ lo hi : Nat,incipitref01_between.f (nms l) 0 (lo : Int) (hi : Int) = some (decide (lo ≤ (l.getD 0 0).toNat ∧ (l.getD 0 0).toNat ≤ hi)) := fun lo hi => by
  rw [show (0 : Int) = ((0 : Nat) : Int) from rfl,btw_eq]
  congr 1
  exact decide_eq_decide.2 (by omega)
 have F1 : ∀ lo hi : Nat,incipitref01_between.f (nms l) 1 (lo : Int) (hi : Int) = some (decide (1 < l.length ∧ lo ≤ (l.getD 1 0).toNat ∧ (l.getD 1 0).toNat ≤ hi)) := fun lo hi => btw_eq l 1 lo hi
 have F2 : ∀ lo hi : Nat,incipitref01_between.f (nms l) 2 (lo : Int) (hi : Int) = some (decide (2 < l.length ∧ lo ≤ (l.getD 2 0).toNat ∧ (l.getD 2 0).toNat ≤ hi)) := fun lo hi => btw_eq l 2 lo hi
 have F3 : ∀ lo hi : Nat,incipitref01_between.f (nms l) 3 (lo : Int) (hi : Int) = some (decide (3 < l.length ∧ lo ≤ (l.getD 3 0).toNat ∧ (l.getD 3 0).toNat ≤ hi)) := fun lo hi => btw_eq l 3 lo hi
 have a1 : incipitref01_between.f (nms l) 0 0 127 = _ := F0 0 127
 have a2 : incipitref01_between.f (nms l) 0 194 223 = _ := F0 194 223
 have a3 : incipitref01_between.f (nms l) 1 128 191 = _ := F1 128 191
 have a4 : incipitref01_between.f (nms l) 2 128 191 = _ := F2 128 191
 have a5 : incipitref01_between.f (nms l) 0 224 224 = _ := F0 224 224
 have a6 : incipitref01_between.f (nms l) 1 160 191 = _ := F1 160 191
 have a7 : incipitref01_between.f (nms l) 0 237 237 = _ := F0 237 237
 have a8 : incipitref01_between.f (nms l) 1 128 159 = _ := F1 128 159
 have a9 : incipitref01_between.f (nms l) 0 225 236 = _ := F0 225 236
 have a10 : incipitref01_between.f (nms l) 0 238 239 = _ := F0 238 239
 have a11 : incipitref01_between.f (nms l) 3 128 191 = _ := F3 128 191
 have a12 : incipitref01_between.f (nms l) 0 240 240 = _ := F0 240 240
 have a13 : incipitref01_between.f (nms l) 1 144 191 = _ := F1 144 191
 have a14 : incipitref01_between.f (nms l) 0 241 243 = _ := F0 241 243
 have a15 : incipitref01_between.f (nms l) 0 244 244 = _ := F0 244 244
 have a16 : incipitref01_between.f (nms l) 1 128 143 = _ := F1 128 143
 clear F0 F1 F2 F3
 generalize hb0 : (l.getD 0 0).toNat = b0 at *
 generalize hb1 : (l.getD 1 0).toNat = b1 at *
 generalize hb2 : (l.getD 2 0).toNat = b2 at *
 generalize hb3 : (l.getD 3 0).toNat = b3 at *
 generalize hln : l.length = n at *
 generalize nms l = m at *
 have e5 : ∀ k x,incipitref01_good.j5 (k + 1) m x = some (if x = true ∨ (b0 = 244 ∧ 1 < n ∧ 128 ≤ b1 ∧ b1 ≤ 143) then 4 else 0) := by
  intro k x
  simp only [incipitref01_good.j5,a15,a16,Option.bind_some]
  cases x with
  | true => rw [if_pos (show true = true from rfl),if_pos (.inl rfl)]
  | false =>
   rw [if_neg (show ¬ (false = true) by decide)]
   by_cases h1 : 244 ≤ b0 ∧ b0 ≤ 244
   ·rw [decide_eq_true h1,if_pos (show true = true from rfl)]
    by_cases h2 : 1 < n ∧ 128 ≤ b1 ∧ b1 ≤ 143
    ·rw [decide_eq_true h2,if_pos (show true = true from rfl),if_pos (.inr ⟨by omega,h2⟩)]
    ·rw [decide_eq_false h2,if_neg (show ¬ (false = true) by decide),if_neg (by rintro (e | e);cases e;exact h2 e.2)]
   ·rw [decide_eq_false h1,if_neg (show ¬ (false = true) by decide),if_neg (by rintro (e | e);cases e;omega)]
 have e4 : ∀ k x,incipitref01_good.j4 (k + 2) m x = some (if x = true ∨ ((241 ≤ b0 ∧ b0 ≤ 243) ∧ 1 < n ∧ 128 ≤ b1 ∧ b1 ≤ 191) ∨ (b0 = 244 ∧ 1 < n ∧ 128 ≤ b1 ∧ b1 ≤ 143) then 4 else 0) := by
  intro k x
  simp only [incipitref01_good.j4,a14,a3,Option.bind_some]
  cases x with
  | true => rw [if_pos (show true = true from rfl),if_pos (.inl rfl)]
  | false =>
   rw [if_neg (show ¬ (false = true) by decide)]
   by_cases h1 : 241 ≤ b0 ∧ b0 ≤ 243
   ·rw [decide_eq_true h1,if_pos (show true = true from rfl),e5 k]
    congr 1
    by_cases h2 : 1 < n ∧ 128 ≤ b1 ∧ b1 ≤ 191
    ·rw [decide_eq_true h2,if_pos (.inl rfl),if_pos (.inr (.inl ⟨h1,h2⟩))]
    ·rw [decide_eq_false h2,if_neg (by rintro (e | e);cases e;omega),if_neg (by rintro (e | e | e);cases e;exact h2 e.2;omega)]
   ·rw [decide_eq_false h1,if_neg (show ¬ (false = true) by decide),e5 k]
    congr 1
    by_cases h3 : b0 = 244 ∧ 1 < n ∧ 128 ≤ b1 ∧ b1 ≤ 143
    ·rw [if_pos (.inr h3),if_pos (.inr (.inr h3))]
    ·rw [if_neg (by rintro (e | e);cases e;exact h3 e),if_neg (by rintro (e | e | e);cases e;exact h1 e.1;exact h3 e)]
 have e3 : ∀ k x,incipitref01_good.j3 (k + 3) m x = some (if x = true then 3 else if ¬ (3 < n ∧ 128 ≤ b3 ∧ b3 ≤ 191) then 0 else if (b0 = 240 ∧ 1 < n ∧ 144 ≤ b1 ∧ b1 ≤ 191) ∨ ((241 ≤ b0 ∧ b0 ≤ 243) ∧ 1 < n ∧ 128 ≤ b1 ∧ b1 ≤ 191) ∨ (b0 = 244 ∧ 1 < n ∧ 128 ≤ b1 ∧ b1 ≤ 143) then 4 else 0) := by
  intro k x
  simp only [incipitref01_good.j3,a11,a12,a13,Option.bind_some]
  cases x with
  | true => rw [if_pos (show true = true from rfl),if_pos (show true = true from rfl)]
  | false =>
   rw [if_neg (show ¬ (false = true) by decide),if_neg (show ¬ (false = true) by decide)]
   by_cases h1 : 3 < n ∧ 128 ≤ b3 ∧ b3 ≤ 191
   ·rw [decide_eq_true h1,if_pos (show true = true from rfl),if_neg (show ¬ ¬ (3 < n ∧ 128 ≤ b3 ∧ b3 ≤ 191) from fun e => e h1)]
    by_cases h2 : 240 ≤ b0 ∧ b0 ≤ 240
    ·rw [decide_eq_true h2,if_pos (show true = true from rfl),e4 k]
     congr 1
     by_cases h3 : 1 < n ∧ 144 ≤ b1 ∧ b1 ≤ 191
     ·rw [decide_eq_true h3,if_pos (.inl rfl),if_pos (.inl ⟨by omega,h3⟩)]
     ·rw [decide_eq_false h3,if_neg (by rintro (e | e | e);cases e;omega;omega),if_neg (by rintro (e | e | e);exact h3 e.2;omega;omega)]
    ·rw [decide_eq_false h2,if_neg (show ¬ (false = true) by decide),e4 k]
     congr 1
     by_cases h3 : ((241 ≤ b0 ∧ b0 ≤ 243) ∧ 1 < n ∧ 128 ≤ b1 ∧ b1 ≤ 191) ∨ (b0 = 244 ∧ 1 < n ∧ 128 ≤ b1 ∧ b1 ≤ 143)
     ·rw [if_pos (.inr h3),if_pos (.inr h3)]
     ·rw [if_neg (by rintro (e | e);cases e;exact h3 e),if_neg (by rintro (e | e);omega;exact h3 e)]
   ·rw [decide_eq_false h1,if_neg (show ¬ (false = true) by decide),if_pos h1]
 have e2 : ∀ k x,incipitref01_good.j2 (k + 4) m x = some (if x = true ∨ ((225 ≤ b0 ∧ b0 ≤ 236 ∨ 238 ≤ b0 ∧ b0 ≤ 239) ∧ 1 < n ∧ 128 ≤ b1 ∧ b1 ≤ 191) then 3 else if ¬ (3 < n ∧ 128 ≤ b3 ∧ b3 ≤ 191) then 0 else if (b0 = 240 ∧ 1 < n ∧ 144 ≤ b1 ∧ b1 ≤ 191) ∨ ((241 ≤ b0 ∧ b0 ≤ 243) ∧ 1 < n ∧ 128 ≤ b1 ∧ b1 ≤ 191) ∨ (b0 = 244 ∧ 1 < n ∧ 128 ≤ b1 ∧ b1 ≤ 143) then 4 else 0) := by
  intro k x
  simp only [incipitref01_good.j2,a9,a10,a3,Option.bind_some]
  cases x with
  | true => rw [if_pos (show true = true from rfl),if_pos (.inl rfl)]
  | false =>
   rw [if_neg (show ¬ (false = true) by decide)]
   by_cases h1 : 225 ≤ b0 ∧ b0 ≤ 236
   ·rw [decide_eq_true h1,if_pos (show true = true from rfl),e3 k]
    congr 1
    by_cases h2 : 1 < n ∧ 128 ≤ b1 ∧ b1 ≤ 191
    ·rw [decide_eq_true h2,if_pos (show true = true from rfl),if_pos (.inr ⟨.inl h1,h2⟩)]
    ·rw [decide_eq_false h2,if_neg (show ¬ (false = true) by decide),if_neg (show ¬ (false = true ∨ _) by rintro (e | e);cases e;exact h2 e.2)]
   ·rw [decide_eq_false h1,if_neg (show ¬ (false = true) by decide)]
    by_cases h2 : 238 ≤ b0 ∧ b0 ≤ 239
    ·rw [decide_eq_true h2,if_pos (show true = true from rfl),e3 k]
     congr 1
     by_cases h3 : 1 < n ∧ 128 ≤ b1 ∧ b1 ≤ 191
     ·rw [decide_eq_true h3,if_pos (show true = true from rfl),if_pos (.inr ⟨.inr h2,h3⟩)]
     ·rw [decide_eq_false h3,if_neg (show ¬ (false = true) by decide),if_neg (show ¬ (false = true ∨ _) by rintro (e | e);cases e;exact h3 e.2)]
    ·rw [decide_eq_false h2,if_neg (show ¬ (false = true) by decide),e3 k,if_neg (show ¬ (false = true) by decide),if_neg (show ¬ (false = true ∨ _) by rintro (e | e);cases e;exact e.1.elim h1 h2)]
 have e1 : ∀ k x,incipitref01_good.j1 (k + 5) m x = some (if x = true ∨ (b0 = 237 ∧ 1 < n ∧ 128 ≤ b1 ∧ b1 ≤ 159) ∨ ((225 ≤ b0 ∧ b0 ≤ 236 ∨ 238 ≤ b0 ∧ b0 ≤ 239) ∧ 1 < n ∧ 128 ≤ b1 ∧ b1 ≤ 191) then 3 else if ¬ (3 < n ∧ 128 ≤ b3 ∧ b3 ≤ 191) then 0 else if (b0 = 240 ∧ 1 < n ∧ 144 ≤ b1 ∧ b1 ≤ 191) ∨ ((241 ≤ b0 ∧ b0 ≤ 243) ∧ 1 < n ∧ 128 ≤ b1 ∧ b1 ≤ 191) ∨ (b0 = 244 ∧ 1 < n ∧ 128 ≤ b1 ∧ b1 ≤ 143) then 4 else 0) := by
  intro k x
  simp only [incipitref01_good.j1,a7,a8,Option.bind_some]
  cases x with
  | true => rw [if_pos (show true = true from rfl),e2 k,if_pos (.inl rfl),if_pos (.inl rfl)]
  | false =>
   rw [if_neg (show ¬ (false = true) by decide)]
   by_cases h1 : 237 ≤ b0 ∧ b0 ≤ 237
   ·rw [decide_eq_true h1,if_pos (show true = true from rfl),e2 k]
    congr 1
    by_cases h2 : 1 < n ∧ 128 ≤ b1 ∧ b1 ≤ 159
    ·rw [decide_eq_true h2,if_pos (.inl rfl),if_pos (.inr (.inl ⟨by omega,h2⟩))]
    ·rw [decide_eq_false h2,if_neg (show ¬ (false = true ∨ _) by rintro (e | e);cases e;omega),if_neg (show ¬ (false = true ∨ _ ∨ _) by rintro (e | e | e);cases e;exact h2 e.2;omega)]
   ·rw [decide_eq_false h1,if_neg (show ¬ (false = true) by decide),e2 k]
    congr 1
    by_cases h3 : (225 ≤ b0 ∧ b0 ≤ 236 ∨ 238 ≤ b0 ∧ b0 ≤ 239) ∧ 1 < n ∧ 128 ≤ b1 ∧ b1 ≤ 191
    ·rw [if_pos (.inr h3),if_pos (.inr (.inr h3))]
    ·rw [if_neg (show ¬ (false = true ∨ _) by rintro (e | e);cases e;exact h3 e),if_neg (show ¬ (false = true ∨ _ ∨ _) by rintro (e | e | e);cases e;omega;exact h3 e)]
 have e0 : ∀ k x,incipitref01_good.j0 (k + 6) m x = some (if x = true then 2 else if ¬ (2 < n ∧ 128 ≤ b2 ∧ b2 ≤ 191) then 0 else if (b0 = 224 ∧ 1 < n ∧ 160 ≤ b1 ∧ b1 ≤ 191) ∨ (b0 = 237 ∧ 1 < n ∧ 128 ≤ b1 ∧ b1 ≤ 159) ∨ ((225 ≤ b0 ∧ b0 ≤ 236 ∨ 238 ≤ b0 ∧ b0 ≤ 239) ∧ 1 < n ∧ 128 ≤ b1 ∧ b1 ≤ 191) then 3 else if ¬ (3 < n ∧ 128 ≤ b3 ∧ b3 ≤ 191) then 0 else if (b0 = 240 ∧ 1 < n ∧ 144 ≤ b1 ∧ b1 ≤ 191) ∨ ((241 ≤ b0 ∧ b0 ≤ 243) ∧ 1 < n ∧ 128 ≤ b1 ∧ b1 ≤ 191) ∨ (b0 = 244 ∧ 1 < n ∧ 128 ≤ b1 ∧ b1 ≤ 143) then 4 else 0) := by
  intro k x
  simp only [incipitref01_good.j0,a4,a5,a6,Option.bind_some]
  cases x with
  | true => rw [if_pos (show true = true from rfl),if_pos (show true = true from rfl)]
  | false =>
   rw [if_neg (show ¬ (false = true) by decide),if_neg (show ¬ (false = true) by decide)]
   by_cases h1 : 2 < n ∧ 128 ≤ b2 ∧ b2 ≤ 191
   ·rw [decide_eq_true h1,if_pos (show true = true from rfl),if_neg (show ¬ ¬ (2 < n ∧ 128 ≤ b2 ∧ b2 ≤ 191) from fun e => e h1)]
    by_cases h2 : 224 ≤ b0 ∧ b0 ≤ 224
    ·rw [decide_eq_true h2,if_pos (show true = true from rfl),e1 k]
     congr 1
     by_cases h3 : 1 < n ∧ 160 ≤ b1 ∧ b1 ≤ 191
     ·rw [decide_eq_true h3,if_pos (.inl rfl),if_pos (.inl ⟨by omega,h3⟩)]
     ·rw [decide_eq_false h3,if_neg (show ¬ (false = true ∨ (b0 = 237 ∧ 1 < n ∧ 128 ≤ b1 ∧ b1 ≤ 159) ∨ ((225 ≤ b0 ∧ b0 ≤ 236 ∨ 238 ≤ b0 ∧ b0 ≤ 239) ∧ 1 < n ∧ 128 ≤ b1 ∧ b1 ≤ 191)) by rintro (e | e | e);cases e;omega;omega),if_neg (show ¬ ((b0 = 224 ∧ 1 < n ∧ 160 ≤ b1 ∧ b1 ≤ 191) ∨ (b0 = 237 ∧ 1 < n ∧ 128 ≤ b1 ∧ b1 ≤ 159) ∨ ((225 ≤ b0 ∧ b0 ≤ 236 ∨ 238 ≤ b0 ∧ b0 ≤ 239) ∧ 1 < n ∧ 128 ≤ b1 ∧ b1 ≤ 191)) by rintro (e | e | e);exact h3 e.2;omega;omega)]
    ·rw [decide_eq_false h2,if_neg (show ¬ (false = true) by decide),e1 k]
     congr 1
     by_cases h3 : (b0 = 237 ∧ 1 < n ∧ 128 ≤ b1 ∧ b1 ≤ 159) ∨ ((225 ≤ b0 ∧ b0 ≤ 236 ∨ 238 ≤ b0 ∧ b0 ≤ 239) ∧ 1 < n ∧ 128 ≤ b1 ∧ b1 ≤ 191)
     ·rw [if_pos (.inr h3),if_pos (.inr h3)]
     ·rw [if_neg (show ¬ (false = true ∨ (b0 = 237 ∧ 1 < n ∧ 128 ≤ b1 ∧ b1 ≤ 159) ∨ ((225 ≤ b0 ∧ b0 ≤ 236 ∨ 238 ≤ b0 ∧ b0 ≤ 239) ∧ 1 < n ∧ 128 ≤ b1 ∧ b1 ≤ 191)) by rintro (e | e);cases e;exact h3 e),if_neg (show ¬ ((b0 = 224 ∧ 1 < n ∧ 160 ≤ b1 ∧ b1 ≤ 191) ∨ (b0 = 237 ∧ 1 < n ∧ 128 ≤ b1 ∧ b1 ≤ 159) ∨ ((225 ≤ b0 ∧ b0 ≤ 236 ∨ 238 ≤ b0 ∧ b0 ≤ 239) ∧ 1 < n ∧ 128 ≤ b1 ∧ b1 ≤ 191)) by rintro (e | e);omega;exact h3 e)]
   ·rw [decide_eq_false h1,if_neg (show ¬ (false = true) by decide),if_pos h1]
 simp only [incipitref01_good.f,a1,a2,a3,Option.bind_some]
 unfold gN
 by_cases c0 : b0 ≤ 127
 ·rw [decide_eq_true (show 0 ≤ b0 ∧ b0 ≤ 127 by omega),if_pos (show true = true from rfl),if_pos c0]
  rfl
 ·rw [decide_eq_false (show ¬ (0 ≤ b0 ∧ b0 ≤ 127) by omega),if_neg (show ¬ (false = true) by decide),if_neg c0]
  have fin : ∀ x : Bool,(x = true ↔ (194 ≤ b0 ∧ b0 ≤ 223) ∧ (1 < n ∧ 128 ≤ b1 ∧ b1 ≤ 191)) → incipitref01_good.j0 (k + 7) m x = some ((if (194 ≤ b0 ∧ b0 ≤ 223) ∧ (1 < n ∧ 128 ≤ b1 ∧ b1 ≤ 191) then 2 else if ¬ (2 < n ∧ 128 ≤ b2 ∧ b2 ≤ 191) then 0
   else if (b0 = 224 ∧ 1 < n ∧ 160 ≤ b1 ∧ b1 ≤ 191) ∨ (b0 = 237 ∧ 1 < n ∧ 128 ≤ b1 ∧ b1 ≤ 159) ∨ ((225 ≤ b0 ∧ b0 ≤ 236 ∨ 238 ≤ b0 ∧ b0 ≤ 239) ∧ 1 < n ∧ 128 ≤ b1 ∧ b1 ≤ 191) then 3
   else if ¬ (3 < n ∧ 128 ≤ b3 ∧ b3 ≤ 191) then 0
   else if (b0 = 240 ∧ 144 ≤ b1 ∧ b1 ≤ 191) ∨ ((241 ≤ b0 ∧ b0 ≤ 243) ∧ 128 ≤ b1 ∧ b1 ≤ 191) ∨ (b0 = 244 ∧ 128 ≤ b1 ∧ b1 ≤ 143) then 4 else 0 : Nat) : Int) := by
   intro x hx
   rw [e0 (k + 1)]
   congr 1
   by_cases g1 : (194 ≤ b0 ∧ b0 ≤ 223) ∧ (1 < n ∧ 128 ≤ b1 ∧ b1 ≤ 191)
   ·rw [if_pos (hx.2 g1),if_pos g1];rfl
   ·rw [if_neg (fun e => g1 (hx.1 e)),if_neg g1]
    by_cases g2 : ¬ (2 < n ∧ 128 ≤ b2 ∧ b2 ≤ 191)
    ·rw [if_pos g2,if_pos g2];rfl
    ·rw [if_neg g2,if_neg g2]
     by_cases g3 : (b0 = 224 ∧ 1 < n ∧ 160 ≤ b1 ∧ b1 ≤ 191) ∨ (b0 = 237 ∧ 1 < n ∧ 128 ≤ b1 ∧ b1 ≤ 159) ∨ ((225 ≤ b0 ∧ b0 ≤ 236 ∨ 238 ≤ b0 ∧ b0 ≤ 239) ∧ 1 < n ∧ 128 ≤ b1 ∧ b1 ≤ 191)
     ·rw [if_pos g3,if_pos g3];rfl
     ·rw [if_neg g3,if_neg g3]
      by_cases g4 : ¬ (3 < n ∧ 128 ≤ b3 ∧ b3 ≤ 191)
      ·rw [if_pos g4,if_pos g4];rfl
      ·rw [if_neg g4,if_neg g4]
       by_cases g5 : (b0 = 240 ∧ 144 ≤ b1 ∧ b1 ≤ 191) ∨ ((241 ≤ b0 ∧ b0 ≤ 243) ∧ 128 ≤ b1 ∧ b1 ≤ 191) ∨ (b0 = 244 ∧ 128 ≤ b1 ∧ b1 ≤ 143)
       ·rw [if_pos g5,if_pos (by omega)];rfl
       ·rw [if_neg g5,if_neg (by omega)];rfl
  by_cases h1 : 194 ≤ b0 ∧ b0 ≤ 223
  ·rw [decide_eq_true h1,if_pos (show true = true from rfl)]
   exact fin _ (by rw [decide_eq_true_iff];exact ⟨fun e => ⟨h1,e⟩,fun e => e.2⟩)
  ·rw [decide_eq_false h1,if_neg (show ¬ (false = true) by decide)]
   exact fin _ ⟨fun e => (by cases e),fun e => absurd e.1 h1⟩
end Go.Proofs.YtekifcbokdidlaaGreatDoor.Pl

namespace Go.Proofs.YtekifcbokdidlaaGreatDoor.Pl
open Go.RowKit Go.Proofs.YtekifcbokdidlaaGreatDoorW.PrintWords Go.Proofs.YtekifcbokdidlaaGreatDoorW.PrintMore Go.Proofs.YtekifcbokdidlaaGreatDoor.PA

theorem nms_str (l : List UInt8) : strOfNums (nms l) = B l := by
  apply B_ext
  rw [B_data]
  simp [strOfNums,nms,Function.comp_def]
theorem nms_app (a b : List UInt8) : nms a ++ nms b = nms (a ++ b) := by simp [nms]
theorem nms_drop (l : List UInt8) (n : Nat) : (nms l).drop n = nms (l.drop n) := by simp [nms]
theorem nms_take (l : List UInt8) (n : Nat) : (nms l).take n = nms (l.take n) := by simp [nms]
/-- How many bytes the reference's character is, 0: none. -/
def gl (l : List UInt8) : Nat := gN l.length (l.getD 0 0).toNat (l.getD 1 0).toNat (l.getD 2 0).toNat (l.getD 3 0).toNat
theorem gl_dec (x : UInt8) (t : List UInt8) : (gl (x :: t) = 0 ∧ (dec (x :: t)).2 = 1 ∧ 128 ≤ x.toNat) ∨ (gl (x :: t) = (dec (x :: t)).2 ∧ 1 ≤ gl (x :: t) ∧ ¬ ((dec (x :: t)).2 = 1 ∧ 128 ≤ x.toNat)) := by
 have h := gN_dec (x :: t).length ((x :: t).getD 0 0).toNat ((x :: t).getD 1 0).toNat ((x :: t).getD 2 0).toNat ((x :: t).getD 3 0).toNat (UInt8.toNat_lt _) (UInt8.toNat_lt _) (UInt8.toNat_lt _) (UInt8.toNat_lt _)
 rw [← dec_eq (x :: t) (by simp)] at h
 have e : ((x :: t).getD 0 0).toNat = x.toNat := rfl
 unfold gl
 rw [e] at h ⊢
 rcases h with ⟨g,d,c⟩ | ⟨g,d,c⟩ | ⟨g,d,c⟩ | ⟨g,d,c⟩ | ⟨g,d,c⟩
 ·exact .inl ⟨g,by rw [d],c⟩
 ·exact .inr ⟨by rw [g,d],by omega,by rw [d];omega⟩
 ·exact .inr ⟨by rw [g,d],by omega,by rw [d];omega⟩
 ·exact .inr ⟨by rw [g,d],by omega,by rw [d];omega⟩
 ·exact .inr ⟨by rw [g,d],by omega,by rw [d];omega⟩
theorem good_ev (l : List UInt8) (h : l ≠ []) : Ev (fun k => incipitref01_good.f k (nms l)) ((gl l : Nat) : Int) :=
  ⟨7,fun k hk => by
    obtain ⟨j,rfl⟩ : ∃ j,k = j + 7 := ⟨k - 7,by omega⟩
    exact good_eq l h j⟩
theorem rclean_l : ∀ (n : Nat) (l acc : List UInt8),l.length ≤ n → acc.length + 3 * l.length ≤ 10000000 → Ev (fun k => incipitref01_Clean.l0 k (nms l) (nms acc)) (B (acc ++ clean l)) := by
 intro n
 induction n with
 | zero =>
  intro l acc hl _
  obtain rfl : l = [] := List.length_eq_zero_iff.1 (by omega)
  refine Ev.step (f := fun _ => some (B (acc ++ clean []))) (fun k => ?_) (Ev.now _)
  simp only [incipitref01_Clean.l0]
  rw [if_neg (by rw [nms_len];simp),nms_str,clean_nil,List.append_nil]
 | succ n ih =>
  intro l acc hl hb
  cases l with
  | nil =>
   refine Ev.step (f := fun _ => some (B (acc ++ clean []))) (fun k => ?_) (Ev.now _)
   simp only [incipitref01_Clean.l0]
   rw [if_neg (by rw [nms_len];simp),nms_str,clean_nil,List.append_nil]
  | cons x t =>
   rw [List.length_cons] at hl hb
   have hln : (nms (x :: t)).length = t.length + 1 := by rw [nms_len];rfl
   have han : (nms acc).length = acc.length := nms_len _
   have r0 : rd (nms (x :: t)) 0 = (x.toNat : Int) := nms_rd (x :: t) 0
   have e0 : ((x.toNat : Int) = 0) ↔ x = 0 := u8_eq x 0 (by decide)
   have hd := dec_len (x :: t) (by simp)
   rw [List.length_cons] at hd
   have mark : ([239,191,189] : List Int) = nms [239,191,189] := rfl
   have hbad : (x = 0 ∨ ((dec (x :: t)).2 = 1 ∧ 128 ≤ x.toNat)) → Ev (fun k => incipitref01_Clean.l0 k ((nms (x :: t)).drop 1) (nms acc ++ [239,191,189])) (B (acc ++ clean (x :: t))) := by
    intro h
    rw [clean_bad x t h,mark,nms_app,nms_drop,← List.append_assoc]
    exact ih t (acc ++ [239,191,189]) (by omega) (by rw [List.length_append];simp;omega)
   refine Ev.step (f := fun k => (incipitref01_good.f k (nms (x :: t))).bind _) (fun k => by simp only [incipitref01_Clean.l0];rw [if_pos (by rw [hln];omega)]) (Ev.bind (good_ev (x :: t) (by simp)) ?_)
   rcases gl_dec x t with ⟨g,d,c⟩ | ⟨g,d,c⟩
   ·refine Ev.congr (fun k => ?_) (hbad (.inr ⟨d,c⟩))
    rw [g,if_pos (show (((0 : Nat) : Int)) = 0 from rfl),Option.bind_some,if_pos (by rw [han];simp;omega),if_pos (by rw [hln];omega)]
   ·by_cases hx : x = 0
    ·refine Ev.congr (fun k => ?_) (hbad (.inl hx))
     rw [if_neg (by omega),if_pos (by rw [hln];omega),r0,if_pos (e0.2 hx),Option.bind_some,if_pos (by rw [han];simp;omega),if_pos (by rw [hln];omega)]
    ·have hc := clean_good x t (by rintro (e | e);exact hx e;exact c e)
     rw [hc,← List.append_assoc]
     have h3 := ih ((x :: t).drop (dec (x :: t)).2) (acc ++ (x :: t).take (dec (x :: t)).2) (by rw [List.length_drop,List.length_cons];omega) (by rw [List.length_append,List.length_drop,List.length_take,List.length_cons];omega)
     refine Ev.congr (fun k => ?_) h3
     rw [if_neg (by omega),if_pos (by rw [hln];omega),r0,if_neg (fun e => hx (e0.1 e)),if_pos (by omega),if_pos (by rw [hln];omega),Option.bind_some,g,Int.toNat_natCast,nms_take,nms_drop,if_pos (by rw [han,nms_len,List.length_take];omega),nms_app]
theorem rclean_ev (l : List UInt8) (hl : l.length ≤ 1000000) : Ev (fun k => incipitref01_Clean.f k (nms l)) (B (clean l)) :=
  rclean_l l.length l [] (Nat.le_refl _) (by simp;omega)
end Go.Proofs.YtekifcbokdidlaaGreatDoor.Pl

namespace Go.Proofs.YtekifcbokdidlaaGreatDoor.PA
open Go.RowKit Go.Proofs.YtekifcbokdidlaaGreatDoorW.PrintWords Go.Proofs.YtekifcbokdidlaaGreatDoorW.PrintLast Go.Proofs.YtekifcbokdidlaaGreatDoorW.PrintMore Go.Proofs.YtekifcbokdidlaaGreatDoor.Pl
set_option linter.unusedVariables false

theorem bo_nms (l : List UInt8) : bytesOf (B l) = nms l := by
  unfold bytesOf nms
  rw [B_data]
/-- What the loop needs of a cleaned text that is left. -/
structure Lft (l m : List UInt8) (n : Nat) : Prop where
 n1 : 1 ≤ n
 nl : n ≤ l.length
 good : ∀ k,7 ≤ k → incipitref01_good.f k (nms l) = some (n : Int)
 rest : l.drop n = m
 cl : clean m = m
 ch : chars l = ((dec l).1 : Int) :: chars m
 val : (n = 1 ∧ (dec l).1 = (l.getD 0 0).toNat) ∨
  (n = 2 ∧ 1 < l.length ∧ (dec l).1 = ((l.getD 0 0).toNat - 192) * 64 + (l.getD 1 0).toNat - 128 ∧ 194 ≤ (l.getD 0 0).toNat ∧ (l.getD 0 0).toNat ≤ 223 ∧ 128 ≤ (l.getD 1 0).toNat ∧ (l.getD 1 0).toNat ≤ 191) ∨
  (n = 3 ∧ 2 < l.length ∧ (dec l).1 = (((l.getD 0 0).toNat - 224) * 64 + (l.getD 1 0).toNat - 128) * 64 + (l.getD 2 0).toNat - 128 ∧ 224 ≤ (l.getD 0 0).toNat ∧ (l.getD 0 0).toNat ≤ 239 ∧ 128 ≤ (l.getD 1 0).toNat ∧ (l.getD 1 0).toNat ≤ 191 ∧ 128 ≤ (l.getD 2 0).toNat ∧ (l.getD 2 0).toNat ≤ 191) ∨
  (n = 4 ∧ 3 < l.length ∧ (dec l).1 = ((((l.getD 0 0).toNat - 240) * 64 + (l.getD 1 0).toNat - 128) * 64 + (l.getD 2 0).toNat - 128) * 64 + (l.getD 3 0).toNat - 128 ∧ 240 ≤ (l.getD 0 0).toNat ∧ (l.getD 0 0).toNat ≤ 244 ∧ 128 ≤ (l.getD 1 0).toNat ∧ (l.getD 1 0).toNat ≤ 191 ∧ 128 ≤ (l.getD 2 0).toNat ∧ (l.getD 2 0).toNat ≤ 191 ∧ 128 ≤ (l.getD 3 0).toNat ∧ (l.getD 3 0).toNat ≤ 191)
theorem lft (l : List UInt8) (h : l ≠ []) (hc : clean l = l) : ∃ m n,Lft l m n := by
 obtain ⟨c,l',hch,e,_⟩ := clean_step l h
 rw [hc] at e
 have hcl : clean (clean l') = clean l' := clean_clean l'
 generalize clean l' = m at e hcl
 obtain ⟨x,t,rfl⟩ := List.exists_cons_of_ne_nil h
 have hd : (dec (x :: t)).2 = c.length := by rw [e];exact hch.dec m
 have hx : c.getD 0 0 = x := by
  obtain ⟨y,c2,rfl⟩ := List.exists_cons_of_ne_nil hch.ne
  rw [List.cons_append] at e
  exact (List.cons.inj e).1.symm
 have hg := hch.good
 rw [hx,← hd] at hg
 have hlen : (x :: t).length = c.length + m.length := by rw [e,List.length_append]
 have hpos : 1 ≤ c.length := List.length_pos_iff.2 hch.ne
 rcases gl_dec x t with ⟨_,d,k⟩ | ⟨g,d,_⟩
 ·exact absurd ⟨d,k⟩ hg
 ·refine ⟨m,c.length,hpos,by omega,fun k hk => ?_,by rw [e,List.drop_left' rfl],hcl,by rw [e];exact chars_chunk c m hch,?_⟩
  ·obtain ⟨j,rfl⟩ : ∃ j,k = j + 7 := ⟨k - 7,by omega⟩
   rw [← hd,← g]
   exact good_eq (x :: t) (by simp) j
  ·have hv := gN_dec (x :: t).length ((x :: t).getD 0 0).toNat ((x :: t).getD 1 0).toNat ((x :: t).getD 2 0).toNat ((x :: t).getD 3 0).toNat (UInt8.toNat_lt _) (UInt8.toNat_lt _) (UInt8.toNat_lt _) (UInt8.toNat_lt _)
   rw [← dec_eq (x :: t) (by simp)] at hv
   rcases hv with ⟨_,v,k⟩ | ⟨_,v,k⟩ | ⟨_,v,k⟩ | ⟨_,v,k⟩ | ⟨_,v,k⟩
   ·exact absurd ⟨by rw [v],k⟩ hg
   ·exact .inl ⟨by rw [← hd,v],by rw [v]⟩
   ·exact .inr (.inl ⟨by rw [← hd,v],k.1,by rw [v],k.2⟩)
   ·exact .inr (.inr (.inl ⟨by rw [← hd,v],k.1,by rw [v],k.2⟩))
   ·exact .inr (.inr (.inr ⟨by rw [← hd,v],k.1,by rw [v],k.2⟩))
theorem C_block {w w' : World} {gb off n : Nat} {xs : List Int} (h : Kd.C (Kd.int .u8) w (some ⟨gb,off,none⟩) n xs) (hb : w'.heap[gb]? = w.heap[gb]?) : Kd.C (Kd.int .u8) w' (some ⟨gb,off,none⟩) n xs := by
 obtain ⟨h1,h2,h3⟩ := h
 refine ⟨h1,h2,fun hp => ?_⟩
 obtain ⟨ad,e,hc⟩ := h3 hp
 cases e
 refine ⟨_,rfl,fun j p hj => ?_⟩
 obtain ⟨c,k1,k2,k3⟩ := hc j p hj
 refine ⟨c,k1,k2,fun i u hu => ?_⟩
 rw [← k3 i u hu]
 refine World.cell?_of_block ?_
 have e : ((⟨gb,off,none⟩ : Addr).add (j * (Kd.int .u8).sz + i)).block = gb := by
  unfold Addr.add
  split <;> rfl
 rw [e]
 exact hb
set_option maxHeartbeats 8000000 in
set_option maxRecDepth 100000 in
theorem refrunes_walk (k : Nat) (s : List UInt8) (hs : s.length ≤ 100000) (hk : incipitref01_Clean.f k (nms s) = some (B (clean s))) (h7 : 7 ≤ k) (w : World) :
  Calls Tryz.prog 69 #[.string (B s)] w fun e w' => ∃ v0_,e = .returned v0_ ∧ Kd.R (Kd.int .i32) 21 w' w.heap.size (fun _ => True) v0_ (chars (clean s)) ∧ Below w.heap.size w w' := by
 have hsz : (B s).size = s.length := B_size s
 have hcz : (B (clean s)).size = (clean s).length := B_size _
 have hcl := clean_le s
 have kb : ∀ W,(convert 9 60 (.string (B s))).run Tryz.prog W = .ok (.slice (some ⟨W.heap.size,0,none⟩) s.length (grownCap W s.length 0 5)) (Lib.bytesWorld W 5 (B s)) := fun W => by
  have h := print_bytes (P := Tryz.prog) 9 60 5 Tryz.underlying9 Tryz.underlying60 Tryz.underlying5 (B s) W
  rw [hsz] at h
  exact h
 have hrd : ∀ (W : World) (l : List UInt8),l.length ≤ 1000000 → Kd.C (Kd.int .u8) (Lib.bytesWorld W 5 (B l)) (some ⟨W.heap.size,0,none⟩) l.length (nms l) := fun W l hl => by
  have h := bytes_reads W 5 (B l) (by rw [B_size];omega)
  rw [B_size,bo_nms] at h
  exact Kd.C_of_reads (d := (0 : Int)) (h1 := fun _ => rfl) h
 have hcall : Calls Tryz.prog 93 #[.slice (some ⟨w.heap.size,0,none⟩) s.length (grownCap w s.length 0 5)] (Lib.bytesWorld w 5 (B s)) fun e w' => e = .returned (.string (B (clean s))) ∧ Below w.heap.size w w' := by
  have h1 := hrd w s (by omega)
  have hV : Kd.V (Kd.int .u8) 5 (Lib.bytesWorld w 5 (B s)) (Lib.bytesWorld w 5 (B s)).heap.size (fun k_ => k_ < (Lib.bytesWorld w 5 (B s)).heap.size) (.slice (some ⟨w.heap.size,0,none⟩) (nms s).length (grownCap w s.length 0 5)) (nms s) := by
   refine Kd.V_mk (by rw [nms_len];exact grownCap_ge _ _ _ _) ?_
   rw [nms_len]
   exact Kd.C_F (Kd.heap_int .u8) h1
  have h2 := incipitref01_Clean.calls k _ (some ⟨w.heap.size,0,none⟩) (grownCap w s.length 0 5) (nms s) (B (clean s)) _ hV hk
  rw [nms_len] at h2
  have hb := bytes_below (Below.refl w.heap.size w) (Nat.le_refl _) 5 (B s)
  exact h2.mono (fun e w' h => ⟨h.1,hb.trans (h.2.mono hb.size)⟩)
 have hconv : ∀ W,(convert 9 60 (.string (B (clean s)))).run Tryz.prog W = .ok (.slice (some ⟨W.heap.size,0,none⟩) (clean s).length (grownCap W (clean s).length 0 5)) (Lib.bytesWorld W 5 (B (clean s))) := fun W => by
  have h := print_bytes (P := Tryz.prog) 9 60 5 Tryz.underlying9 Tryz.underlying60 Tryz.underlying5 (B (clean s)) W
  rw [hcz] at h
  exact h
 have hcc := clean_clean s
 obtain ⟨C,hC⟩ : ∃ C,clean s = C := ⟨_,rfl⟩
 have hrdC := fun W => hrd W C (by rw [← hC];omega)
 rw [hC] at hcall hcl hcc hconv ⊢
 have hCl : C.length ≤ 300000 := by omega
 have HCall := Lib.hid hcall
 have HRd := Lib.hid hrdC
 have HCC := Lib.hid hcc
 have HCv := Lib.hid hconv
 have kb1 := kb w
 clear hcall hrdC hrd hk hC hcz hsz hcc hcl hconv kb
 go_enter Tryz.func69,Tryz.ntmps69
 go_wp2_with fail
 refine HCall.out.mono ?_
 rintro e w1 ⟨rfl,hb1⟩
 have hcv := HCv.out w1
 have hge : C.length ≤ grownCap w1 C.length 0 5 := grownCap_ge _ _ _ _
 obtain ⟨gc,hgc⟩ : ∃ gc,grownCap w1 C.length 0 5 = gc := ⟨_,rfl⟩
 rw [hgc] at hcv hge
 have hb1s := hb1.size
 have hR1 := HRd.out w1
 have hB2 := bytes_below hb1 hb1s 5 (B C)
 have hgb : w1.heap.size < (Lib.bytesWorld w1 5 (B C)).heap.size := by rw [Lib.bytesWorld_size];exact Nat.lt_succ_self _
 generalize Lib.bytesWorld w1 5 (B C) = w2 at hcv hR1 hB2 hgb
 obtain ⟨gb,hgbe⟩ : ∃ gb,w1.heap.size = gb := ⟨_,rfl⟩
 rw [hgbe] at hcv hR1 hgb hb1s
 have HR2 := Lib.hid hR1
 have HB2 := Lib.hid hB2
 clear hR1 hB2 HCall HRd HCv hb1 kb1 hgc
 go_wp2
 go_loopw [3,4] (fun v3 v4 wr => ∃ (l : List UInt8) (off c : Nat) (acc : List Int),v4 = .slice (some ⟨gb,off,none⟩) l.length c ∧ l.length ≤ c ∧ l.length ≤ 300000 ∧ gb < wr.heap.size ∧ Hid (Kd.C (Kd.int .u8) wr (some ⟨gb,off,none⟩) l.length (nms l)) ∧ Hid (clean l = l) ∧ Hid (acc ++ chars l = chars C) ∧ Hid (acc.length + l.length ≤ 300000) ∧ Hid (Kd.R (Kd.int .i32) 21 wr w.heap.size (fun k_ => k_ ≠ gb) v3 acc) ∧ Hid (Below w.heap.size w wr)) (fun _ v4 _ => match v4 with | .slice _ n _ => n | _ => 0)
 case atStart => exact ⟨C,0,gc,[],rfl,hge,hCl,hgb,HR2,HCC,Lib.hid rfl,Lib.hid (by simpa using hCl),Lib.hid (Kd.R_nil _ _ _ _ _),HB2⟩
 case round =>
  clear HR2 HCC HB2 hge hgb
  obtain ⟨l,off,c,acc,rfl,hlc,hll,hgw,HC,HCl,HA,HAl,HR,HB⟩ := hrel
  by_cases hl0 : l = []
  ·subst hl0
   have HA2 : Hid (acc = chars C) := Lib.hid ((List.append_nil acc).symm.trans HA.out)
   go_wp2
   repeat (first | refine ex_noGoto_ret ?_ | refine ex_block_ret ?_ | refine ex_then_ret ?_)
   go_ret
   exact ⟨_,rfl,HA2.out ▸ Kd.R_mono HR.out (fun _ _ => trivial),HB.out⟩
  ·obtain ⟨m,n,hL⟩ := lft l hl0 HCl.out
   have hpos : 0 < l.length := List.length_pos_iff.2 hl0
   have hgood : Calls Tryz.prog 94 #[.slice (some ⟨gb,off,none⟩) l.length c] wr fun e w' => e = .returned (.int .i64 (n : Int)) ∧ Drawn0 wr w' := by
    have h := incipitref01_good.calls k (some ⟨gb,off,none⟩) c (nms l) (n : Int) wr (by rw [nms_len];exact HC.out) (by rw [nms_len];exact hlc) (hL.good k h7)
    rw [nms_len] at h
    exact h
   have HG := Lib.hid hgood
   have HLf := Lib.hid hL
   clear hgood hL
   go_wp2_with fail
   refine HG.out.mono ?_
   rintro e w3 ⟨rfl,hd⟩
   obtain ⟨⟨nd,rfl⟩⟩ := hd
   obtain ⟨b',off',e,hbl,hcell0⟩ := bytes_lie (l := nms l) (by rw [nms_len];exact HC.out) (by rw [nms_len];exact hpos)
   cases e
   have hcell : ∀ j,j < l.length → (wr.drewN nd).cell? ⟨gb,off + j,none⟩ = some (.int .u8 ((l.getD j 0).toNat : Int)) := fun j hj => by
    have h := hcell0 j (by rw [nms_len];exact hj)
    rw [World.cell?_drewN,h]
    congr 2
    have h2 := nms_rd l j
    unfold rd at h2
    rw [Int.toNat_natCast] at h2
    exact h2
   have HC3 := Lib.hid (Kd.C_drewN HC.out nd)
   have HR3 := Lib.hid (Kd.R_drewN HR.out nd)
   have HB3 := Lib.hid (pw_below_drewN HB.out nd)
   have hgw3 : gb < (wr.drewN nd).heap.size := hgw
   generalize wr.drewN nd = w3 at hcell HC3 HR3 HB3 hgw3 ⊢
   have c0 := hcell 0 hpos
   rw [Nat.add_zero] at c0
   obtain ⟨i0,hi0,hz0,hz1,hz2⟩ := info_parts info5
   have hcut := cut_from (P := Tryz.prog) 60 5 .i64 Tryz.underlying60 hi0 1 hz1 (some ⟨gb,off,none⟩) l.length c (n : Int) (by omega) (by have := HLf.out.nl;omega)
   have hdropC := Kd.C_drop (m := n) (show Kd.C (Kd.int .u8) w3 (some ⟨gb,off,none⟩) (nms l).length (nms l) by rw [nms_len];exact HC3.out) (by rw [nms_len];exact HLf.out.nl) (by rw [nms_len];exact hlc)
   rw [Int.toNat_natCast] at hcut
   obtain ⟨off2,ho2⟩ : ∃ off2,(if c = n then some (⟨gb,off,none⟩ : Addr) else Option.map (fun x : Addr => x.add (n * 1)) (some (⟨gb,off,none⟩ : Addr))) = some (⟨gb,off2,none⟩ : Addr) := by
    split
    ·exact ⟨off,rfl⟩
    ·refine ⟨off + n,?_⟩
     rw [Option.map_some,Nat.mul_one]
     congr 1
     unfold Addr.add
     split
     ·rename_i e;subst e;rfl
     ·rfl
   have hdropC2 : Kd.C (Kd.int .u8) w3 (some ⟨gb,off2,none⟩) ((nms l).drop n).length ((nms l).drop n) := ho2 ▸ hdropC
   rw [nms_drop,nms_len,HLf.out.rest] at hdropC2
   have HD := Lib.hid hdropC2
   have hlen : m.length = l.length - n := by rw [← HLf.out.rest,List.length_drop]
   rw [ho2,← hlen] at hcut
   have hval := HLf.out.val
   have hw3s := HB3.out.size
   have b0l : (l.getD 0 0).toNat < 256 := UInt8.toNat_lt _
   have b1l : (l.getD 1 0).toNat < 256 := UInt8.toNat_lt _
   have b2l : (l.getD 2 0).toNat < 256 := UInt8.toNat_lt _
   have b3l : (l.getD 3 0).toNat < 256 := UInt8.toNat_lt _
   have hmc : m.length ≤ c - n := by omega
   have hml : m.length < l.length := by have := HLf.out.n1;omega
   clear HC HR HB hcell0 hbl HG hgw hdropC hdropC2 ho2
   rcases hval with ⟨rfl,hv⟩ | ⟨rfl,g1,hv,v1,v2,v3,v4⟩ | ⟨rfl,g1,hv,v1,v2,v3,v4,v5,v6⟩ | ⟨rfl,g1,hv,v1,v2,v3,v4,v5,v6,v7,v8⟩
   ·have hcut2 : ∀ W,(Instr.slice 60 (.slice (some ⟨gb,off,none⟩) l.length c) (some (.int .i64 1)) none none).run Tryz.prog W = .ok (.slice (some ⟨gb,off2,none⟩) m.length (c - 1)) W := hcut
    clear hcell hcut
    generalize (l.getD 0 0).toNat = b0 at *
    generalize (l.getD 1 0).toNat = b1 at *
    generalize (l.getD 2 0).toNat = b2 at *
    generalize (l.getD 3 0).toNat = b3 at *
    obtain ⟨V,hV⟩ : ∃ V : Int,((dec l).1 : Int) = V := ⟨_,rfl⟩
    have hVe : ([0,(b0 : Int)] : List Int).getD 1 0 = V := by rw [← hV,hv];show (b0 : Int) = _;omega
    have HVE := Lib.hid hVe
    have HVV := Lib.hid hV
    clear hVe hv hV
    go_wp2
    go_loop [6,7] (fun v6 v7 => ∃ i : Nat,1 ≤ i ∧ i ≤ 1 ∧ v7 = .int .i64 (i : Int) ∧ v6 = .int .i32 (([0,(b0 : Int)] : List Int).getD i 0)) (fun _ v7 => 1 - (intOf v7).toNat)
    case atStart => exact ⟨1,by decide,by decide,rfl,congrArg (Value.int .i32) (by show _ = (b0 : Int);first | rfl | (unfold wrap32;omega))⟩
    case round =>
     obtain ⟨i,hi1,hi4,rfl,rfl⟩ := hrel
     rcases (by omega : i = 1) with rfl
     ·rw [HVE.out]
      go_wp2_with (first | ((with_reducible refine gate_builtin (b := .append) (xs := #[.tmp 47,.tmp 49]) rfl ?_);at_builtin;refine Kd.R_append (Kd.int .i32) (w0 := w) w.heap.size rfl (.tmp 47) (.tmp 49) 73 21 (.int .i32 0) 4 rfl Tryz.underlying73 (by kernel_rfl) rfl (by decide) (by omega) u3 acc V [.int .i32 V] (fun k_ => k_ ≠ gb) (fun _ => False) rfl rfl ?aP (fun _ hk => hk.elim) ?aF ?aO ?aB ?aS ?aL ?_;(case aP => exact rfl);(case aF => intro k_ hk_;omega);(case aO => exact HR3.out);(case aB => exact HB3.out);(case aS => exact hw3s);(case aL => have := HAl.out;omega);intro v50 w4 ho hb hg hat;have HO4 := Lib.hid ho;have HB4 := Lib.hid hb;have HG4 := Lib.hid hg;clear ho hb hg hat))
      go_roundw
      case rel => exact ⟨m,off2,c - 1,acc ++ [V],by rw [hlen],hmc,by omega,Nat.lt_of_lt_of_le hgw3 HG4.out.size,Lib.hid (C_block HD.out (HG4.out.block gb hgw3 (fun e_ => HR3.out.1 gb e_.symm rfl))),Lib.hid HLf.out.cl,Lib.hid (by have h1 := HA.out;rw [HLf.out.ch,HVV.out] at h1;rw [← h1,List.append_assoc];rfl),Lib.hid (by have h1 := HAl.out;rw [List.length_append,List.length_singleton];omega),HO4,HB4⟩
      case measure => show l.length - 1 < l.length;omega
   ·have hcut2 : ∀ W,(Instr.slice 60 (.slice (some ⟨gb,off,none⟩) l.length c) (some (.int .i64 2)) none none).run Tryz.prog W = .ok (.slice (some ⟨gb,off2,none⟩) m.length (c - 2)) W := hcut
    have c1 := hcell 1 (by omega)
    clear hcell hcut
    generalize (l.getD 0 0).toNat = b0 at *
    generalize (l.getD 1 0).toNat = b1 at *
    generalize (l.getD 2 0).toNat = b2 at *
    generalize (l.getD 3 0).toNat = b3 at *
    obtain ⟨V,hV⟩ : ∃ V : Int,((dec l).1 : Int) = V := ⟨_,rfl⟩
    have hVe : ([0,(b0 : Int) - 192,((b0 : Int) - 192) * 64 + b1 - 128] : List Int).getD 2 0 = V := by rw [← hV,hv];show ((b0 : Int) - 192) * 64 + b1 - 128 = _;omega
    have HVE := Lib.hid hVe
    have HVV := Lib.hid hV
    clear hVe hv hV
    go_wp2
    go_loop [6,7] (fun v6 v7 => ∃ i : Nat,1 ≤ i ∧ i ≤ 2 ∧ v7 = .int .i64 (i : Int) ∧ v6 = .int .i32 (([0,(b0 : Int) - 192,((b0 : Int) - 192) * 64 + b1 - 128] : List Int).getD i 0)) (fun _ v7 => 2 - (intOf v7).toNat)
    case atStart => exact ⟨1,by decide,by decide,rfl,congrArg (Value.int .i32) (by show _ = (b0 : Int) - 192;first | rfl | (unfold wrap32;omega))⟩
    case round =>
     obtain ⟨i,hi1,hi4,rfl,rfl⟩ := hrel
     rcases (by omega : i = 1 ∨ i = 2) with rfl | rfl
     ·go_wp2
      go_round
      case rel => exact ⟨2,by decide,by decide,rfl,congrArg (Value.int .i32) (by show _ = ((b0 : Int) - 192) * 64 + b1 - 128;first | rfl | (simp only [List.getD_cons_succ,List.getD_cons_zero];done) | (simp only [List.getD_cons_succ,List.getD_cons_zero];unfold wrap32;omega) | (unfold wrap32;omega))⟩
      case measure => decide
     ·rw [HVE.out]
      go_wp2_with (first | ((with_reducible refine gate_builtin (b := .append) (xs := #[.tmp 47,.tmp 49]) rfl ?_);at_builtin;refine Kd.R_append (Kd.int .i32) (w0 := w) w.heap.size rfl (.tmp 47) (.tmp 49) 73 21 (.int .i32 0) 4 rfl Tryz.underlying73 (by kernel_rfl) rfl (by decide) (by omega) u3 acc V [.int .i32 V] (fun k_ => k_ ≠ gb) (fun _ => False) rfl rfl ?aP (fun _ hk => hk.elim) ?aF ?aO ?aB ?aS ?aL ?_;(case aP => exact rfl);(case aF => intro k_ hk_;omega);(case aO => exact HR3.out);(case aB => exact HB3.out);(case aS => exact hw3s);(case aL => have := HAl.out;omega);intro v50 w4 ho hb hg hat;have HO4 := Lib.hid ho;have HB4 := Lib.hid hb;have HG4 := Lib.hid hg;clear ho hb hg hat))
      go_roundw
      case rel => exact ⟨m,off2,c - 2,acc ++ [V],by rw [hlen],hmc,by omega,Nat.lt_of_lt_of_le hgw3 HG4.out.size,Lib.hid (C_block HD.out (HG4.out.block gb hgw3 (fun e_ => HR3.out.1 gb e_.symm rfl))),Lib.hid HLf.out.cl,Lib.hid (by have h1 := HA.out;rw [HLf.out.ch,HVV.out] at h1;rw [← h1,List.append_assoc];rfl),Lib.hid (by have h1 := HAl.out;rw [List.length_append,List.length_singleton];omega),HO4,HB4⟩
      case measure => show l.length - 2 < l.length;omega
   ·have hcut2 : ∀ W,(Instr.slice 60 (.slice (some ⟨gb,off,none⟩) l.length c) (some (.int .i64 3)) none none).run Tryz.prog W = .ok (.slice (some ⟨gb,off2,none⟩) m.length (c - 3)) W := hcut
    have c1 := hcell 1 (by omega)
    have c2 := hcell 2 (by omega)
    clear hcell hcut
    generalize (l.getD 0 0).toNat = b0 at *
    generalize (l.getD 1 0).toNat = b1 at *
    generalize (l.getD 2 0).toNat = b2 at *
    generalize (l.getD 3 0).toNat = b3 at *
    obtain ⟨V,hV⟩ : ∃ V : Int,((dec l).1 : Int) = V := ⟨_,rfl⟩
    have hVe : ([0,(b0 : Int) - 224,((b0 : Int) - 224) * 64 + b1 - 128,(((b0 : Int) - 224) * 64 + b1 - 128) * 64 + b2 - 128] : List Int).getD 3 0 = V := by rw [← hV,hv];show (((b0 : Int) - 224) * 64 + b1 - 128) * 64 + b2 - 128 = _;omega
    have HVE := Lib.hid hVe
    have HVV := Lib.hid hV
    clear hVe hv hV
    go_wp2
    go_loop [6,7] (fun v6 v7 => ∃ i : Nat,1 ≤ i ∧ i ≤ 3 ∧ v7 = .int .i64 (i : Int) ∧ v6 = .int .i32 (([0,(b0 : Int) - 224,((b0 : Int) - 224) * 64 + b1 - 128,(((b0 : Int) - 224) * 64 + b1 - 128) * 64 + b2 - 128] : List Int).getD i 0)) (fun _ v7 => 3 - (intOf v7).toNat)
    case atStart => exact ⟨1,by decide,by decide,rfl,congrArg (Value.int .i32) (by show _ = (b0 : Int) - 224;first | rfl | (unfold wrap32;omega))⟩
    case round =>
     obtain ⟨i,hi1,hi4,rfl,rfl⟩ := hrel
     rcases (by omega : i = 1 ∨ i = 2 ∨ i = 3) with rfl | rfl | rfl
     ·go_wp2
      go_round
      case rel => exact ⟨2,by decide,by decide,rfl,congrArg (Value.int .i32) (by show _ = ((b0 : Int) - 224) * 64 + b1 - 128;first | rfl | (simp only [List.getD_cons_succ,List.getD_cons_zero];done) | (simp only [List.getD_cons_succ,List.getD_cons_zero];unfold wrap32;omega) | (unfold wrap32;omega))⟩
      case measure => decide
     ·go_wp2
      go_round
      case rel => exact ⟨3,by decide,by decide,rfl,congrArg (Value.int .i32) (by show _ = (((b0 : Int) - 224) * 64 + b1 - 128) * 64 + b2 - 128;first | rfl | (simp only [List.getD_cons_succ,List.getD_cons_zero];done) | (simp only [List.getD_cons_succ,List.getD_cons_zero];unfold wrap32;omega) | (unfold wrap32;omega))⟩
      case measure => decide
     ·rw [HVE.out]
      go_wp2_with (first | ((with_reducible refine gate_builtin (b := .append) (xs := #[.tmp 47,.tmp 49]) rfl ?_);at_builtin;refine Kd.R_append (Kd.int .i32) (w0 := w) w.heap.size rfl (.tmp 47) (.tmp 49) 73 21 (.int .i32 0) 4 rfl Tryz.underlying73 (by kernel_rfl) rfl (by decide) (by omega) u3 acc V [.int .i32 V] (fun k_ => k_ ≠ gb) (fun _ => False) rfl rfl ?aP (fun _ hk => hk.elim) ?aF ?aO ?aB ?aS ?aL ?_;(case aP => exact rfl);(case aF => intro k_ hk_;omega);(case aO => exact HR3.out);(case aB => exact HB3.out);(case aS => exact hw3s);(case aL => have := HAl.out;omega);intro v50 w4 ho hb hg hat;have HO4 := Lib.hid ho;have HB4 := Lib.hid hb;have HG4 := Lib.hid hg;clear ho hb hg hat))
      go_roundw
      case rel => exact ⟨m,off2,c - 3,acc ++ [V],by rw [hlen],hmc,by omega,Nat.lt_of_lt_of_le hgw3 HG4.out.size,Lib.hid (C_block HD.out (HG4.out.block gb hgw3 (fun e_ => HR3.out.1 gb e_.symm rfl))),Lib.hid HLf.out.cl,Lib.hid (by have h1 := HA.out;rw [HLf.out.ch,HVV.out] at h1;rw [← h1,List.append_assoc];rfl),Lib.hid (by have h1 := HAl.out;rw [List.length_append,List.length_singleton];omega),HO4,HB4⟩
      case measure => show l.length - 3 < l.length;omega
   ·have hcut2 : ∀ W,(Instr.slice 60 (.slice (some ⟨gb,off,none⟩) l.length c) (some (.int .i64 4)) none none).run Tryz.prog W = .ok (.slice (some ⟨gb,off2,none⟩) m.length (c - 4)) W := hcut
    have c1 := hcell 1 (by omega)
    have c2 := hcell 2 (by omega)
    have c3 := hcell 3 (by omega)
    clear hcell hcut
    generalize (l.getD 0 0).toNat = b0 at *
    generalize (l.getD 1 0).toNat = b1 at *
    generalize (l.getD 2 0).toNat = b2 at *
    generalize (l.getD 3 0).toNat = b3 at *
    obtain ⟨V,hV⟩ : ∃ V : Int,((dec l).1 : Int) = V := ⟨_,rfl⟩
    have hVe : ([0,(b0 : Int) - 240,((b0 : Int) - 240) * 64 + b1 - 128,(((b0 : Int) - 240) * 64 + b1 - 128) * 64 + b2 - 128,((((b0 : Int) - 240) * 64 + b1 - 128) * 64 + b2 - 128) * 64 + b3 - 128] : List Int).getD 4 0 = V := by rw [← hV,hv];show ((((b0 : Int) - 240) * 64 + b1 - 128) * 64 + b2 - 128) * 64 + b3 - 128 = _;omega
    have HVE := Lib.hid hVe
    have HVV := Lib.hid hV
    clear hVe hv hV
    go_wp2
    go_loop [6,7] (fun v6 v7 => ∃ i : Nat,1 ≤ i ∧ i ≤ 4 ∧ v7 = .int .i64 (i : Int) ∧ v6 = .int .i32 (([0,(b0 : Int) - 240,((b0 : Int) - 240) * 64 + b1 - 128,(((b0 : Int) - 240) * 64 + b1 - 128) * 64 + b2 - 128,((((b0 : Int) - 240) * 64 + b1 - 128) * 64 + b2 - 128) * 64 + b3 - 128] : List Int).getD i 0)) (fun _ v7 => 4 - (intOf v7).toNat)
    case atStart => exact ⟨1,by decide,by decide,rfl,congrArg (Value.int .i32) (by show _ = (b0 : Int) - 240;first | rfl | (unfold wrap32;omega))⟩
    case round =>
     obtain ⟨i,hi1,hi4,rfl,rfl⟩ := hrel
     rcases (by omega : i = 1 ∨ i = 2 ∨ i = 3 ∨ i = 4) with rfl | rfl | rfl | rfl
     ·go_wp2
      go_round
      case rel => exact ⟨2,by decide,by decide,rfl,congrArg (Value.int .i32) (by show _ = ((b0 : Int) - 240) * 64 + b1 - 128;first | rfl | (simp only [List.getD_cons_succ,List.getD_cons_zero];done) | (simp only [List.getD_cons_succ,List.getD_cons_zero];unfold wrap32;omega) | (unfold wrap32;omega))⟩
      case measure => decide
     ·go_wp2
      go_round
      case rel => exact ⟨3,by decide,by decide,rfl,congrArg (Value.int .i32) (by show _ = (((b0 : Int) - 240) * 64 + b1 - 128) * 64 + b2 - 128;first | rfl | (simp only [List.getD_cons_succ,List.getD_cons_zero];done) | (simp only [List.getD_cons_succ,List.getD_cons_zero];unfold wrap32;omega) | (unfold wrap32;omega))⟩
      case measure => decide
     ·go_wp2
      go_round
      case rel => exact ⟨4,by decide,by decide,rfl,congrArg (Value.int .i32) (by show _ = ((((b0 : Int) - 240) * 64 + b1 - 128) * 64 + b2 - 128) * 64 + b3 - 128;first | rfl | (simp only [List.getD_cons_succ,List.getD_cons_zero];done) | (simp only [List.getD_cons_succ,List.getD_cons_zero];unfold wrap32;omega) | (unfold wrap32;omega))⟩
      case measure => decide
     ·rw [HVE.out]
      go_wp2_with (first | ((with_reducible refine gate_builtin (b := .append) (xs := #[.tmp 47,.tmp 49]) rfl ?_);at_builtin;refine Kd.R_append (Kd.int .i32) (w0 := w) w.heap.size rfl (.tmp 47) (.tmp 49) 73 21 (.int .i32 0) 4 rfl Tryz.underlying73 (by kernel_rfl) rfl (by decide) (by omega) u3 acc V [.int .i32 V] (fun k_ => k_ ≠ gb) (fun _ => False) rfl rfl ?aP (fun _ hk => hk.elim) ?aF ?aO ?aB ?aS ?aL ?_;(case aP => exact rfl);(case aF => intro k_ hk_;omega);(case aO => exact HR3.out);(case aB => exact HB3.out);(case aS => exact hw3s);(case aL => have := HAl.out;omega);intro v50 w4 ho hb hg hat;have HO4 := Lib.hid ho;have HB4 := Lib.hid hb;have HG4 := Lib.hid hg;clear ho hb hg hat))
      go_roundw
      case rel => exact ⟨m,off2,c - 4,acc ++ [V],by rw [hlen],hmc,by omega,Nat.lt_of_lt_of_le hgw3 HG4.out.size,Lib.hid (C_block HD.out (HG4.out.block gb hgw3 (fun e_ => HR3.out.1 gb e_.symm rfl))),Lib.hid HLf.out.cl,Lib.hid (by have h1 := HA.out;rw [HLf.out.ch,HVV.out] at h1;rw [← h1,List.append_assoc];rfl),Lib.hid (by have h1 := HAl.out;rw [List.length_append,List.length_singleton];omega),HO4,HB4⟩
      case measure => show l.length - 4 < l.length;omega
def incipitref01_Runes.f (k : Nat) (a0 : ByteArray) : Option (List Int) := if a0.size ≤ 100000 ∧ 7 ≤ k ∧ incipitref01_Clean.f k (nms a0.data.toList) = some (B (clean a0.data.toList)) then some (chars (clean a0.data.toList)) else none
theorem incipitref01_Runes.calls (k : Nat) (a0 : ByteArray) (r : List Int) (w : World) (h : incipitref01_Runes.f k a0 = some r) :
    Calls Tryz.prog 69 #[.string a0] w fun e w' => ∃ v0_,e = .returned v0_ ∧ Kd.R (Kd.int .i32) 21 w' w.heap.size (fun _ => True) v0_ r ∧ Below w.heap.size w w' := by
  unfold incipitref01_Runes.f at h
  split at h
  · rename_i hc
    obtain rfl := Option.some.inj h
    exact refrunes_walk k a0.data.toList (by rw [Array.length_toList];exact hc.1) hc.2.2 hc.2.1 w
  · cases h
end Go.Proofs.YtekifcbokdidlaaGreatDoor.PA

namespace Go.Proofs.YtekifcbokdidlaaGreatDoor.PA
open Go.RowKit Go.Proofs.YtekifcbokdidlaaGreatDoorW.PrintWords Go.Proofs.YtekifcbokdidlaaGreatDoorW.PrintLast Go.Proofs.YtekifcbokdidlaaGreatDoorW.PrintMore
attribute [local go_sem] max2_int min2_int max_two min_two max_three min_three max_four min_four   -- for this text's walks alone
set_option linter.unusedVariables false
set_option linter.unusedSimpArgs false






/-! ### incipitlaw10_awake: function 8 -/
def incipitlaw10_awake.f (k : Nat)  : Option (Bool) := (refs_Take.f k (⟨#[91,97,93,58,32,47,117,10,120]⟩ : ByteArray)).bind fun bt128 => ((refs_Take.f k (⟨#[91,97,93,58,32,47,117,32,39,116,39,10,120]⟩ : ByteArray)).bind fun bt133 => ((refs_All.f k (⟨#[91,65,93,58,32,98,10,91,99,93,58,32,100,10,101]⟩ : ByteArray)).bind fun bt138 => ((refs_Find.f bt138.1 (⟨#[32,97,32]⟩ : ByteArray)).bind fun bt142 => (if bt128.1.toList = ([97] : List UInt8) then (if bt128.2.1.toList = ([47,117] : List UInt8) then (if bt128.2.2.2 = 8 then (if bt133.2.2.1.toList = ([116] : List UInt8) then (if bt133.2.2.2 = 12 then (if (bt138.1.length : Int) = 2 then (if bt138.2.toList = ([101] : List UInt8) then (if bt142.2.2.2 = true then (some (bt142.2.1.toList == ([98] : List UInt8))) else (none)) else (none)) else (none)) else (none)) else (none)) else (none)) else (none)) else (none)))))
theorem incipitlaw10_awake.mono : ∀ k,LeO (incipitlaw10_awake.f k ) (incipitlaw10_awake.f (k + 1) ) := by
 intro  k
 unfold incipitlaw10_awake.f
 repeat' first
   | (with_reducible exact refs_All.mono _ _)
   | (with_reducible exact refs_Take.mono _ _)
   | (with_reducible exact LeO.refl _)
   | (with_reducible exact LeO.none _)
   | (with_reducible refine LeO.ite ?_ ?_)
   | (with_reducible refine LeO.bind ?_ (fun _ => ?_))
   | exact refs_All.mono _ _
   | exact refs_Take.mono _ _
   | exact LeO.none _
   | refine LeO.ite ?_ ?_
   | refine LeO.bind ?_ (fun _ => ?_)
set_option maxHeartbeats 8000000 in
set_option maxRecDepth 100000 in
theorem incipitlaw10_awake.calls (k : Nat)  (r : Bool) (w : World) (hLd : Laid w) (h : incipitlaw10_awake.f k  = some r) :
  Calls Tryz.prog 8 #[] w fun e w' => e = .returned (.bool r) ∧ Below w.heap.size w w' := by
 have hu26 := Tryz.underlying26
 have HB := Aside0.mk (Below.refl w.heap.size w)
 have H : ((refs_Take.f k (⟨#[91,97,93,58,32,47,117,10,120]⟩ : ByteArray)).bind fun bt128 => ((refs_Take.f k (⟨#[91,97,93,58,32,47,117,32,39,116,39,10,120]⟩ : ByteArray)).bind fun bt133 => ((refs_All.f k (⟨#[91,65,93,58,32,98,10,91,99,93,58,32,100,10,101]⟩ : ByteArray)).bind fun bt138 => ((refs_Find.f bt138.1 (⟨#[32,97,32]⟩ : ByteArray)).bind fun bt142 => (if bt128.1.toList = ([97] : List UInt8) then (if bt128.2.1.toList = ([47,117] : List UInt8) then (if bt128.2.2.2 = 8 then (if bt133.2.2.1.toList = ([116] : List UInt8) then (if bt133.2.2.2 = 12 then (if (bt138.1.length : Int) = 2 then (if bt138.2.toList = ([101] : List UInt8) then (if bt142.2.2.2 = true then (some (bt142.2.1.toList == ([98] : List UInt8))) else (none)) else (none)) else (none)) else (none)) else (none)) else (none)) else (none)) else (none)))))) = some r := h
 clear h
 replace H := Option.bind_eq_some_iff.mp H
 obtain ⟨⟨t128,t129,t130,t131⟩,A10,H⟩ := H
 (try dsimp only at H)
 have A1 := Aside0.mk A10
 clear A10
 replace H := Option.bind_eq_some_iff.mp H
 obtain ⟨⟨t133,t134,t135,t136⟩,A20,H⟩ := H
 (try dsimp only at H)
 have A2 := Aside0.mk A20
 clear A20
 replace H := Option.bind_eq_some_iff.mp H
 obtain ⟨⟨t138,t139⟩,A30,H⟩ := H
 (try dsimp only at H)
 have A3 := Aside0.mk A30
 clear A30
 replace H := Option.bind_eq_some_iff.mp H
 obtain ⟨⟨t142,t143,t144,t145⟩,A40,H⟩ := H
 (try dsimp only at H)
 have A4 := Aside0.mk A40
 clear A40
 by_cases c5 : t128.toList = ([97] : List UInt8)
 ·rw [if_pos c5] at H
  have c5b0 : (t128.toList == ([97] : List UInt8)) = true := beq_iff_eq.mpr c5
  have c5b1 : (t128.toList != ([97] : List UInt8)) = false := bne_eq_false_iff_eq.mpr c5
  clear c5
  by_cases c6 : t129.toList = ([47,117] : List UInt8)
  ·rw [if_pos c6] at H
   have c6b0 : (t129.toList == ([47,117] : List UInt8)) = true := beq_iff_eq.mpr c6
   have c6b1 : (t129.toList != ([47,117] : List UInt8)) = false := bne_eq_false_iff_eq.mpr c6
   clear c6
   by_cases c7 : t131 = 8
   ·rw [if_pos c7] at H
    have c7b0 : (t131 == 8) = true := beq_iff_eq.mpr c7
    have c7b1 : (t131 != 8) = false := bne_eq_false_iff_eq.mpr c7
    clear c7
    by_cases c8 : t135.toList = ([116] : List UInt8)
    ·rw [if_pos c8] at H
     have c8b0 : (t135.toList == ([116] : List UInt8)) = true := beq_iff_eq.mpr c8
     have c8b1 : (t135.toList != ([116] : List UInt8)) = false := bne_eq_false_iff_eq.mpr c8
     clear c8
     by_cases c9 : t136 = 12
     ·rw [if_pos c9] at H
      have c9b0 : (t136 == 12) = true := beq_iff_eq.mpr c9
      have c9b1 : (t136 != 12) = false := bne_eq_false_iff_eq.mpr c9
      clear c9
      by_cases c10 : (t138.length : Int) = 2
      ·rw [if_pos c10] at H
       have c10b0 : ((t138.length : Int) == 2) = true := beq_iff_eq.mpr c10
       have c10b1 : ((t138.length : Int) != 2) = false := bne_eq_false_iff_eq.mpr c10
       clear c10
       by_cases c11 : t139.toList = ([101] : List UInt8)
       ·rw [if_pos c11] at H
        have c11b0 : (t139.toList == ([101] : List UInt8)) = true := beq_iff_eq.mpr c11
        have c11b1 : (t139.toList != ([101] : List UInt8)) = false := bne_eq_false_iff_eq.mpr c11
        clear c11
        by_cases c12 : t145 = true
        ·subst c12
         have H1 : (some (t143.toList == ([98] : List UInt8))) = some r := by rw [if_pos rfl] at H;exact H
         clear H
         have H := H1
         clear H1
         obtain rfl := Option.some.inj H
         go_enter Tryz.func8,Tryz.ntmps8
         go_wp2_with (first | ((with_reducible refine gate_callee (f := 15) rfl ?_);refine goesL_ (some 10) rfl rfl Tryz.func15 (by kernel_rfl) rfl #[.string (⟨#[91,97,93,58,32,47,117,10,120]⟩ : ByteArray)] rfl (by (try simp only [List.map_toArray,List.map_cons,List.map_nil]);try rfl) ?_;(with_reducible refine (refs_Take.calls k (⟨#[91,97,93,58,32,47,117,10,120]⟩ : ByteArray) t128 t129 t130 t131 _ ?side1 A1.out).mono ?_);(case side1 => exact Laid.go hLd HB.out);rintro e w13 ⟨rfl,hb⟩;refine ⟨_,rfl,?_⟩;have n0_ := Aside0.mk (below_step HB.out hb);clear HB;have HB := n0_;clear n0_) | ((with_reducible refine gate_dst (N := 1) rfl ?_);(try (refine gate_guard (by rfl) ?_;dsimp only));refine box_event ?hg (N := 1) ?hd (cs := #[.string (⟨#[]⟩ : ByteArray),.string (⟨#[]⟩ : ByteArray),.string (⟨#[]⟩ : ByteArray)]) (t := 26) ?hr ?_;(case hd => rfl);(case hg => rfl);(case hr => first | (go_simp;done) | (go_simp;rfl));intro gb132 hg w14 hbox hb;have n0_ := Aside0.mk (below_step HB.out hb);have n1_ := Aside0.mk (hbox);have n2_ := Aside0.mk ((by rw [hg];exact (below_size HB.out) : w.heap.size ≤ gb132));have n3_ := Aside0.mk ((by rw [hg];exact (below_size HB.out) : w.heap.size ≤ gb132));clear HB;have HB := n0_;have BK132 := n1_;have GW132 := n2_;have GE132 := n3_;clear n0_ n1_ n2_ n3_;clear hb hbox hg;have hcz15_0 : w14.cell? ⟨gb132,0,none⟩ = some (.string (⟨#[]⟩ : ByteArray)) := (blk_cell BK132.out 0).trans rfl;have hcz15_1 : w14.cell? ⟨gb132,1,none⟩ = some (.string (⟨#[]⟩ : ByteArray)) := (blk_cell BK132.out 1).trans rfl;have hcz15_2 : w14.cell? ⟨gb132,2,none⟩ = some (.string (⟨#[]⟩ : ByteArray)) := (blk_cell BK132.out 2).trans rfl;have hfz15_0 := blk_frozen BK132.out 0;have hfz15_1 := blk_frozen BK132.out 1;have hfz15_2 := blk_frozen BK132.out 2) | ((with_reducible refine gate_callee (f := 15) rfl ?_);refine goesL_ (some 14) rfl rfl Tryz.func15 (by kernel_rfl) rfl #[.string (⟨#[91,97,93,58,32,47,117,32,39,116,39,10,120]⟩ : ByteArray)] rfl (by (try simp only [List.map_toArray,List.map_cons,List.map_nil]);try rfl) ?_;(with_reducible refine (refs_Take.calls k (⟨#[91,97,93,58,32,47,117,32,39,116,39,10,120]⟩ : ByteArray) t133 t134 t135 t136 _ ?side1 A2.out).mono ?_);(case side1 => exact Laid.go hLd (by repeat (first | (with_reducible first | exact HB.out | apply below_alloc | apply pw_below_drewN | apply below_drew1 | refine below_set ?_ GE132.out) | exact HB.out)));rintro e w16 ⟨rfl,hb⟩;refine ⟨_,rfl,?_⟩;have n0_ := Aside0.mk (blk_below (g := gb132) (o := .cells #[.string t128,.string t129,.string t130] 26 (0,0)) (by (with_reducible repeat (first | refine blk_drewN ?_ _ | refine blk_drew ?_ | refine blk_alloc ?_ _));refine blk_put (cs := #[.string t128,.string t129,.string (⟨#[]⟩ : ByteArray)]) ?_ 2 _ rfl;(with_reducible repeat (first | refine blk_drewN ?_ _ | refine blk_drew ?_ | refine blk_alloc ?_ _));refine blk_put (cs := #[.string t128,.string (⟨#[]⟩ : ByteArray),.string (⟨#[]⟩ : ByteArray)]) ?_ 1 _ rfl;(with_reducible repeat (first | refine blk_drewN ?_ _ | refine blk_drew ?_ | refine blk_alloc ?_ _));refine blk_put (cs := #[.string (⟨#[]⟩ : ByteArray),.string (⟨#[]⟩ : ByteArray),.string (⟨#[]⟩ : ByteArray)]) ?_ 0 _ rfl;(with_reducible repeat (first | refine blk_drewN ?_ _ | refine blk_drew ?_ | refine blk_alloc ?_ _));exact BK132.out) hb);have n1_ := Aside0.mk (below_step (by repeat (first | (with_reducible first | exact HB.out | apply below_alloc | apply pw_below_drewN | apply below_drew1 | refine below_set ?_ GE132.out) | exact HB.out)) hb);clear BK132;clear HB;have BK132 := n0_;have HB := n1_;clear n0_ n1_) | ((with_reducible refine gate_dst (N := 3) rfl ?_);(try (refine gate_guard (by rfl) ?_;dsimp only));refine box_event ?hg (N := 3) ?hd (cs := #[.string (⟨#[]⟩ : ByteArray),.string (⟨#[]⟩ : ByteArray),.string (⟨#[]⟩ : ByteArray)]) (t := 26) ?hr ?_;(case hd => rfl);(case hg => rfl);(case hr => first | (go_simp;done) | (go_simp;rfl));intro gb137 hg w17 hbox hb;have n0_ := Aside0.mk (blk_below (g := gb132) (o := .cells #[.string t128,.string t129,.string t130] 26 (0,0)) (by (with_reducible repeat (first | refine blk_drewN ?_ _ | refine blk_drew ?_ | refine blk_alloc ?_ _));exact BK132.out) hb);have n1_ := Aside0.mk (below_step (by repeat (first | (with_reducible first | exact HB.out | apply below_alloc | apply pw_below_drewN | apply below_drew1 | refine below_set ?_ GE132.out) | exact HB.out)) hb);have n2_ := Aside0.mk (hbox);have n3_ := Aside0.mk ((by rw [hg];exact (below_size (by repeat (first | (with_reducible first | exact HB.out | apply below_alloc | apply pw_below_drewN | apply below_drew1 | refine below_set ?_ GE132.out) | exact HB.out))) : w.heap.size ≤ gb137));have n4_ := Aside0.mk ((by rw [hg];exact (below_size (by repeat (first | (with_reducible first | exact HB.out | apply below_alloc | apply pw_below_drewN | apply below_drew1 | refine below_set ?_ GE132.out) | exact HB.out))) : w.heap.size ≤ gb137));have n5_ := Aside0.mk ((by rw [hg];exact Nat.ne_of_lt (blk_lt (g := gb132) (o := .cells #[.string t128,.string t129,.string t130] 26 (0,0)) (by (with_reducible repeat (first | refine blk_drewN ?_ _ | refine blk_drew ?_ | refine blk_alloc ?_ _));exact BK132.out)) : gb132 ≠ gb137));have n6_ := Aside0.mk ((by rw [hg];exact Nat.ne_of_gt (blk_lt (g := gb132) (o := .cells #[.string t128,.string t129,.string t130] 26 (0,0)) (by (with_reducible repeat (first | refine blk_drewN ?_ _ | refine blk_drew ?_ | refine blk_alloc ?_ _));exact BK132.out)) : gb137 ≠ gb132));clear BK132;clear HB;have BK132 := n0_;have HB := n1_;have BK137 := n2_;have GW137 := n3_;have GE137 := n4_;have NB132_137 := n5_;have NB137_132 := n6_;clear n0_ n1_ n2_ n3_ n4_ n5_ n6_;clear hb hbox hg;have hnb18 := NB137_132.out;have hnc18 := NB132_137.out;have hcz19_0 : w17.cell? ⟨gb137,0,none⟩ = some (.string (⟨#[]⟩ : ByteArray)) := (blk_cell BK137.out 0).trans rfl;have hcz19_1 : w17.cell? ⟨gb137,1,none⟩ = some (.string (⟨#[]⟩ : ByteArray)) := (blk_cell BK137.out 1).trans rfl;have hcz19_2 : w17.cell? ⟨gb137,2,none⟩ = some (.string (⟨#[]⟩ : ByteArray)) := (blk_cell BK137.out 2).trans rfl;have hfz19_0 := blk_frozen BK137.out 0;have hfz19_1 := blk_frozen BK137.out 1;have hfz19_2 := blk_frozen BK137.out 2) | ((with_reducible refine gate_callee (f := 17) rfl ?_);refine goesL_ (some 18) rfl rfl Tryz.func17 (by kernel_rfl) rfl #[.string (⟨#[91,65,93,58,32,98,10,91,99,93,58,32,100,10,101]⟩ : ByteArray)] rfl (by (try simp only [List.map_toArray,List.map_cons,List.map_nil]);try rfl) ?_;(with_reducible refine (refs_All.calls k (⟨#[91,65,93,58,32,98,10,91,99,93,58,32,100,10,101]⟩ : ByteArray) t138 t139 _ ?side1 A3.out).mono ?_);(case side1 => exact Laid.go hLd (by repeat (first | (with_reducible first | exact HB.out | apply below_alloc | apply pw_below_drewN | apply below_drew1 | refine below_set ?_ GE132.out | refine below_set ?_ GE137.out) | exact HB.out)));rintro e w20 ⟨v140,rfl,ho0,hb⟩;refine ⟨_,rfl,?_⟩;have n0_ := Aside0.mk (Kd.R_lower (Kd.R_newB (Kd.R_newB ho0 (g := gb132) (o := .cells #[.string t128,.string t129,.string t130] 26 (0,0)) (by (with_reducible repeat (first | refine blk_drewN ?_ _ | refine blk_drew ?_ | refine blk_alloc ?_ _));refine blk_far ?_ NB132_137.out _;(with_reducible repeat (first | refine blk_drewN ?_ _ | refine blk_drew ?_ | refine blk_alloc ?_ _));refine blk_far ?_ NB132_137.out _;(with_reducible repeat (first | refine blk_drewN ?_ _ | refine blk_drew ?_ | refine blk_alloc ?_ _));refine blk_far ?_ NB132_137.out _;(with_reducible repeat (first | refine blk_drewN ?_ _ | refine blk_drew ?_ | refine blk_alloc ?_ _));exact BK132.out)) (g := gb137) (o := .cells #[.string t133,.string t134,.string t135] 26 (0,0)) (by (with_reducible repeat (first | refine blk_drewN ?_ _ | refine blk_drew ?_ | refine blk_alloc ?_ _));refine blk_put (cs := #[.string t133,.string t134,.string (⟨#[]⟩ : ByteArray)]) ?_ 2 _ rfl;(with_reducible repeat (first | refine blk_drewN ?_ _ | refine blk_drew ?_ | refine blk_alloc ?_ _));refine blk_put (cs := #[.string t133,.string (⟨#[]⟩ : ByteArray),.string (⟨#[]⟩ : ByteArray)]) ?_ 1 _ rfl;(with_reducible repeat (first | refine blk_drewN ?_ _ | refine blk_drew ?_ | refine blk_alloc ?_ _));refine blk_put (cs := #[.string (⟨#[]⟩ : ByteArray),.string (⟨#[]⟩ : ByteArray),.string (⟨#[]⟩ : ByteArray)]) ?_ 0 _ rfl;(with_reducible repeat (first | refine blk_drewN ?_ _ | refine blk_drew ?_ | refine blk_alloc ?_ _));exact BK137.out)) (below_size (by repeat (first | (with_reducible first | exact HB.out | apply below_alloc | apply pw_below_drewN | apply below_drew1 | refine below_set ?_ GE132.out | refine below_set ?_ GE137.out) | exact HB.out))));have n1_ := Aside0.mk (blk_below (g := gb132) (o := .cells #[.string t128,.string t129,.string t130] 26 (0,0)) (by (with_reducible repeat (first | refine blk_drewN ?_ _ | refine blk_drew ?_ | refine blk_alloc ?_ _));refine blk_far ?_ NB132_137.out _;(with_reducible repeat (first | refine blk_drewN ?_ _ | refine blk_drew ?_ | refine blk_alloc ?_ _));refine blk_far ?_ NB132_137.out _;(with_reducible repeat (first | refine blk_drewN ?_ _ | refine blk_drew ?_ | refine blk_alloc ?_ _));refine blk_far ?_ NB132_137.out _;(with_reducible repeat (first | refine blk_drewN ?_ _ | refine blk_drew ?_ | refine blk_alloc ?_ _));exact BK132.out) hb);have n2_ := Aside0.mk (blk_below (g := gb137) (o := .cells #[.string t133,.string t134,.string t135] 26 (0,0)) (by (with_reducible repeat (first | refine blk_drewN ?_ _ | refine blk_drew ?_ | refine blk_alloc ?_ _));refine blk_put (cs := #[.string t133,.string t134,.string (⟨#[]⟩ : ByteArray)]) ?_ 2 _ rfl;(with_reducible repeat (first | refine blk_drewN ?_ _ | refine blk_drew ?_ | refine blk_alloc ?_ _));refine blk_put (cs := #[.string t133,.string (⟨#[]⟩ : ByteArray),.string (⟨#[]⟩ : ByteArray)]) ?_ 1 _ rfl;(with_reducible repeat (first | refine blk_drewN ?_ _ | refine blk_drew ?_ | refine blk_alloc ?_ _));refine blk_put (cs := #[.string (⟨#[]⟩ : ByteArray),.string (⟨#[]⟩ : ByteArray),.string (⟨#[]⟩ : ByteArray)]) ?_ 0 _ rfl;(with_reducible repeat (first | refine blk_drewN ?_ _ | refine blk_drew ?_ | refine blk_alloc ?_ _));exact BK137.out) hb);have n3_ := Aside0.mk (below_step (by repeat (first | (with_reducible first | exact HB.out | apply below_alloc | apply pw_below_drewN | apply below_drew1 | refine below_set ?_ GE132.out | refine below_set ?_ GE137.out) | exact HB.out)) hb);clear BK132;clear BK137;clear HB;have HO141 := n0_;have BK132 := n1_;have BK137 := n2_;have HB := n3_;clear n0_ n1_ n2_ n3_;(try clear ho0);obtain ⟨Ao21,co21,eo21⟩ := Kd.R_slice HO141.out;subst eo21) | ((with_reducible refine gate_callee (f := 10) rfl ?_);refine goesL_ (some 23) rfl rfl Tryz.func10 (by kernel_rfl) rfl #[.slice Ao21 t138.length co21,.string (⟨#[32,97,32]⟩ : ByteArray)] rfl (by (try simp only [List.map_toArray,List.map_cons,List.map_nil]);try rfl) ?_;(with_reducible refine (refs_Find.calls _ _ t138 (⟨#[32,97,32]⟩ : ByteArray) t142 t143 t144 true _ ?side1 ?side2 ?side3 A4.out).mono ?_);(case side1 => exact Laid.go hLd (by repeat (first | (with_reducible first | exact HB.out | apply below_alloc | apply pw_below_drewN | apply below_drew1 | refine below_set ?_ GE132.out | refine below_set ?_ GE137.out) | exact HB.out)));(case side2 => repeat (first | exact (Kd.R_reads' HO141.out).2.2 | (with_reducible refine Kd.C_alloc ?_ _) | (with_reducible refine Kd.C_drewN ?_ _) | (with_reducible refine Kd.C_drew ?_)));(case side3 => exact (Kd.R_reads' HO141.out).2.1);rintro e w22 ⟨rfl,hb⟩;refine ⟨_,rfl,?_⟩;have n0_ := Aside0.mk (Kd.R_below (by (with_reducible repeat (first | apply Kd.R_alloc | apply Kd.R_drewN | apply Kd.R_drew));exact HO141.out) hb);have n1_ := Aside0.mk (blk_below (g := gb132) (o := .cells #[.string t128,.string t129,.string t130] 26 (0,0)) (by (with_reducible repeat (first | refine blk_drewN ?_ _ | refine blk_drew ?_ | refine blk_alloc ?_ _));exact BK132.out) hb);have n2_ := Aside0.mk (blk_below (g := gb137) (o := .cells #[.string t133,.string t134,.string t135] 26 (0,0)) (by (with_reducible repeat (first | refine blk_drewN ?_ _ | refine blk_drew ?_ | refine blk_alloc ?_ _));exact BK137.out) hb);have n3_ := Aside0.mk (below_step (by repeat (first | (with_reducible first | exact HB.out | apply below_alloc | apply pw_below_drewN | apply below_drew1 | refine below_set ?_ GE132.out | refine below_set ?_ GE137.out) | exact HB.out)) hb);clear HO141;clear BK132;clear BK137;clear HB;have HO141 := n0_;have BK132 := n1_;have BK137 := n2_;have HB := n3_;clear n0_ n1_ n2_ n3_) | ((with_reducible refine gate_dst (N := 7) rfl ?_);(try (refine gate_guard (by rfl) ?_;dsimp only));refine box_event ?hg (N := 7) ?hd (cs := #[.string (⟨#[]⟩ : ByteArray),.string (⟨#[]⟩ : ByteArray),.string (⟨#[]⟩ : ByteArray)]) (t := 26) ?hr ?_;(case hd => rfl);(case hg => rfl);(case hr => first | (go_simp;done) | (go_simp;rfl));intro gb146 hg w23 hbox hb;have n0_ := Aside0.mk (Kd.R_below (Kd.R_elderB (by (with_reducible repeat (first | apply Kd.R_alloc | apply Kd.R_drewN | apply Kd.R_drew));exact HO141.out) gb146 (Nat.le_of_eq hg.symm)) hb);have n1_ := Aside0.mk (blk_below (g := gb132) (o := .cells #[.string t128,.string t129,.string t130] 26 (0,0)) (by (with_reducible repeat (first | refine blk_drewN ?_ _ | refine blk_drew ?_ | refine blk_alloc ?_ _));exact BK132.out) hb);have n2_ := Aside0.mk (blk_below (g := gb137) (o := .cells #[.string t133,.string t134,.string t135] 26 (0,0)) (by (with_reducible repeat (first | refine blk_drewN ?_ _ | refine blk_drew ?_ | refine blk_alloc ?_ _));exact BK137.out) hb);have n3_ := Aside0.mk (below_step (by repeat (first | (with_reducible first | exact HB.out | apply below_alloc | apply pw_below_drewN | apply below_drew1 | refine below_set ?_ GE132.out | refine below_set ?_ GE137.out) | exact HB.out)) hb);have n4_ := Aside0.mk (hbox);have n5_ := Aside0.mk ((by rw [hg];exact (below_size (by repeat (first | (with_reducible first | exact HB.out | apply below_alloc | apply pw_below_drewN | apply below_drew1 | refine below_set ?_ GE132.out | refine below_set ?_ GE137.out) | exact HB.out))) : w.heap.size ≤ gb146));have n6_ := Aside0.mk ((by rw [hg];exact (below_size (by repeat (first | (with_reducible first | exact HB.out | apply below_alloc | apply pw_below_drewN | apply below_drew1 | refine below_set ?_ GE132.out | refine below_set ?_ GE137.out) | exact HB.out))) : w.heap.size ≤ gb146));have n7_ := Aside0.mk ((by rw [hg];exact Nat.ne_of_lt (blk_lt (g := gb132) (o := .cells #[.string t128,.string t129,.string t130] 26 (0,0)) (by (with_reducible repeat (first | refine blk_drewN ?_ _ | refine blk_drew ?_ | refine blk_alloc ?_ _));exact BK132.out)) : gb132 ≠ gb146));have n8_ := Aside0.mk ((by rw [hg];exact Nat.ne_of_gt (blk_lt (g := gb132) (o := .cells #[.string t128,.string t129,.string t130] 26 (0,0)) (by (with_reducible repeat (first | refine blk_drewN ?_ _ | refine blk_drew ?_ | refine blk_alloc ?_ _));exact BK132.out)) : gb146 ≠ gb132));have n9_ := Aside0.mk ((by rw [hg];exact Nat.ne_of_lt (blk_lt (g := gb137) (o := .cells #[.string t133,.string t134,.string t135] 26 (0,0)) (by (with_reducible repeat (first | refine blk_drewN ?_ _ | refine blk_drew ?_ | refine blk_alloc ?_ _));exact BK137.out)) : gb137 ≠ gb146));have n10_ := Aside0.mk ((by rw [hg];exact Nat.ne_of_gt (blk_lt (g := gb137) (o := .cells #[.string t133,.string t134,.string t135] 26 (0,0)) (by (with_reducible repeat (first | refine blk_drewN ?_ _ | refine blk_drew ?_ | refine blk_alloc ?_ _));exact BK137.out)) : gb146 ≠ gb137));clear HO141;clear BK132;clear BK137;clear HB;have HO141 := n0_;have BK132 := n1_;have BK137 := n2_;have HB := n3_;have BK146 := n4_;have GW146 := n5_;have GE146 := n6_;have NB132_146 := n7_;have NB146_132 := n8_;have NB137_146 := n9_;have NB146_137 := n10_;clear n0_ n1_ n2_ n3_ n4_ n5_ n6_ n7_ n8_ n9_ n10_;clear hb hbox hg;have hnb24 := NB146_132.out;have hnc24 := NB132_146.out;have hnb25 := NB146_137.out;have hnc25 := NB137_146.out;have hcz26_0 : w23.cell? ⟨gb146,0,none⟩ = some (.string (⟨#[]⟩ : ByteArray)) := (blk_cell BK146.out 0).trans rfl;have hcz26_1 : w23.cell? ⟨gb146,1,none⟩ = some (.string (⟨#[]⟩ : ByteArray)) := (blk_cell BK146.out 1).trans rfl;have hcz26_2 : w23.cell? ⟨gb146,2,none⟩ = some (.string (⟨#[]⟩ : ByteArray)) := (blk_cell BK146.out 2).trans rfl;have hfz26_0 := blk_frozen BK146.out 0;have hfz26_1 := blk_frozen BK146.out 1;have hfz26_2 := blk_frozen BK146.out 2;have hcz27_0 : w23.cell? ⟨gb132,0,none⟩ = some (.string t128) := (blk_cell BK132.out 0).trans rfl;have hcz27_1 : w23.cell? ⟨gb132,1,none⟩ = some (.string t129) := (blk_cell BK132.out 1).trans rfl;have hcz27_2 : w23.cell? ⟨gb132,2,none⟩ = some (.string t130) := (blk_cell BK132.out 2).trans rfl;have hfz27_0 := blk_frozen BK132.out 0;have hfz27_1 := blk_frozen BK132.out 1;have hfz27_2 := blk_frozen BK132.out 2;have hcz28_0 : w23.cell? ⟨gb137,0,none⟩ = some (.string t133) := (blk_cell BK137.out 0).trans rfl;have hcz28_1 : w23.cell? ⟨gb137,1,none⟩ = some (.string t134) := (blk_cell BK137.out 1).trans rfl;have hcz28_2 : w23.cell? ⟨gb137,2,none⟩ = some (.string t135) := (blk_cell BK137.out 2).trans rfl;have hfz28_0 := blk_frozen BK137.out 0;have hfz28_1 := blk_frozen BK137.out 1;have hfz28_2 := blk_frozen BK137.out 2))
         go_ret
         exact ⟨by first | rfl | exact retNe _ | (simp [errW_none,errW_some] <;> rfl) | (simp [*,errW_none,errW_some] <;> rfl),by repeat (first | (with_reducible first | exact HB.out | apply below_alloc | apply pw_below_drewN | apply below_drew1 | refine below_set ?_ GE132.out | refine below_set ?_ GE137.out | refine below_set ?_ GE146.out) | exact HB.out)⟩
        ·replace c12 := Bool.eq_false_iff.mpr c12
         subst c12
         have H1 : (none) = some r := by rw [if_neg (show ¬ (false = true) by decide)] at H;exact H
         cases H1
       ·rw [if_neg c11] at H
        cases H
      ·rw [if_neg c10] at H
       cases H
     ·rw [if_neg c9] at H
      cases H
    ·rw [if_neg c8] at H
     cases H
   ·rw [if_neg c7] at H
    cases H
  ·rw [if_neg c6] at H
   cases H
 ·rw [if_neg c5] at H
  cases H
/-! ### incipitlaw10_few: function 9 -/

end Go.Proofs.YtekifcbokdidlaaGreatDoor.PA

namespace Go.Proofs.YtekifcbokdidlaaGreatDoor.Pure
open Go.RowKit Go.Proofs.YtekifcbokdidlaaGreatDoorW.PrintWords Go.Proofs.YtekifcbokdidlaaGreatDoorW.PrintMore Go.Proofs.YtekifcbokdidlaaGreatDoor.Pl Go.Proofs.YtekifcbokdidlaaGreatDoor.PA

theorem awake_at : incipitlaw10_awake.f 8 = some true := by decide +kernel
theorem awake_ev : Ev (fun k => incipitlaw10_awake.f k) true := Ev.of incipitlaw10_awake.mono awake_at
end Go.Proofs.YtekifcbokdidlaaGreatDoor.Pure

namespace Go.Proofs.YtekifcbokdidlaaGreatDoor.PA
open Go.RowKit Go.Proofs.YtekifcbokdidlaaGreatDoorW.PrintWords Go.Proofs.YtekifcbokdidlaaGreatDoorW.PrintLast Go.Proofs.YtekifcbokdidlaaGreatDoorW.PrintMore
attribute [local go_sem] max2_int min2_int max_two min_two max_three min_three max_four min_four   -- for this text's walks alone
set_option linter.unusedVariables false
set_option linter.unusedSimpArgs false

/-! ### incipitref05_Sign: function 85 -/
def incipitref05_Sign.f (a0 : Int) : Option (Bool) := if a0 ≥ 33 then (if a0 ≤ 47 then (some true) else (if a0 ≥ 58 then (if a0 ≤ 64 then (some true) else (if a0 ≥ 91 then (if a0 ≤ 96 then (some true) else (if a0 ≥ 123 then (some (decide (a0 ≤ 126))) else (some false))) else (if a0 ≥ 123 then (some (decide (a0 ≤ 126))) else (some false)))) else (if a0 ≥ 91 then (if a0 ≤ 96 then (some true) else (if a0 ≥ 123 then (some (decide (a0 ≤ 126))) else (some false))) else (if a0 ≥ 123 then (some (decide (a0 ≤ 126))) else (some false))))) else (if a0 ≥ 58 then (if a0 ≤ 64 then (some true) else (if a0 ≥ 91 then (if a0 ≤ 96 then (some true) else (if a0 ≥ 123 then (some (decide (a0 ≤ 126))) else (some false))) else (if a0 ≥ 123 then (some (decide (a0 ≤ 126))) else (some false)))) else (if a0 ≥ 91 then (if a0 ≤ 96 then (some true) else (if a0 ≥ 123 then (some (decide (a0 ≤ 126))) else (some false))) else (if a0 ≥ 123 then (some (decide (a0 ≤ 126))) else (some false))))
set_option maxHeartbeats 8000000 in
set_option maxRecDepth 100000 in
theorem incipitref05_Sign.calls (a0 : Int) (r : Bool) (w : World) (h : incipitref05_Sign.f a0 = some r) :
  Calls Tryz.prog 85 #[.int .u8 a0] w fun e w' => e = .returned (.bool r) ∧ Drawn0 w w' := by
 have H : (if a0 ≥ 33 then (if a0 ≤ 47 then (some true) else (if a0 ≥ 58 then (if a0 ≤ 64 then (some true) else (if a0 ≥ 91 then (if a0 ≤ 96 then (some true) else (if a0 ≥ 123 then (some (decide (a0 ≤ 126))) else (some false))) else (if a0 ≥ 123 then (some (decide (a0 ≤ 126))) else (some false)))) else (if a0 ≥ 91 then (if a0 ≤ 96 then (some true) else (if a0 ≥ 123 then (some (decide (a0 ≤ 126))) else (some false))) else (if a0 ≥ 123 then (some (decide (a0 ≤ 126))) else (some false))))) else (if a0 ≥ 58 then (if a0 ≤ 64 then (some true) else (if a0 ≥ 91 then (if a0 ≤ 96 then (some true) else (if a0 ≥ 123 then (some (decide (a0 ≤ 126))) else (some false))) else (if a0 ≥ 123 then (some (decide (a0 ≤ 126))) else (some false)))) else (if a0 ≥ 91 then (if a0 ≤ 96 then (some true) else (if a0 ≥ 123 then (some (decide (a0 ≤ 126))) else (some false))) else (if a0 ≥ 123 then (some (decide (a0 ≤ 126))) else (some false))))) = some r := h
 clear h
 by_cases c2 : a0 ≥ 33
 ·rw [if_pos c2] at H
  have c2b0 : decide (33 ≤ a0) = true := decide_eq_true c2
  clear c2
  by_cases c3 : a0 ≤ 47
  ·rw [if_pos c3] at H
   have c3b0 : decide (a0 ≤ 47) = true := decide_eq_true c3
   clear c3
   obtain rfl := Option.some.inj H
   go_enter Tryz.func85,Tryz.ntmps85
   go_wp2
   go_ret
   exact ⟨by first | rfl | (simp;done) | (simp [*];done),by repeat (first | exact Drawn0.refl _ | apply Drawn0.step)⟩
  ·rw [if_neg c3] at H
   have c3b0 : decide (a0 ≤ 47) = false := decide_eq_false c3
   clear c3
   by_cases c4 : a0 ≥ 58
   ·rw [if_pos c4] at H
    have c4b0 : decide (58 ≤ a0) = true := decide_eq_true c4
    clear c4
    by_cases c5 : a0 ≤ 64
    ·rw [if_pos c5] at H
     have c5b0 : decide (a0 ≤ 64) = true := decide_eq_true c5
     clear c5
     obtain rfl := Option.some.inj H
     go_enter Tryz.func85,Tryz.ntmps85
     go_wp2
     go_ret
     exact ⟨by first | rfl | (simp;done) | (simp [*];done),by repeat (first | exact Drawn0.refl _ | apply Drawn0.step)⟩
    ·rw [if_neg c5] at H
     have c5b0 : decide (a0 ≤ 64) = false := decide_eq_false c5
     clear c5
     by_cases c6 : a0 ≥ 91
     ·rw [if_pos c6] at H
      have c6b0 : decide (91 ≤ a0) = true := decide_eq_true c6
      clear c6
      by_cases c7 : a0 ≤ 96
      ·rw [if_pos c7] at H
       have c7b0 : decide (a0 ≤ 96) = true := decide_eq_true c7
       clear c7
       obtain rfl := Option.some.inj H
       go_enter Tryz.func85,Tryz.ntmps85
       go_wp2
       go_ret
       exact ⟨by first | rfl | (simp;done) | (simp [*];done),by repeat (first | exact Drawn0.refl _ | apply Drawn0.step)⟩
      ·rw [if_neg c7] at H
       have c7b0 : decide (a0 ≤ 96) = false := decide_eq_false c7
       clear c7
       by_cases c8 : a0 ≥ 123
       ·rw [if_pos c8] at H
        have c8b0 : decide (123 ≤ a0) = true := decide_eq_true c8
        clear c8
        obtain rfl := Option.some.inj H
        go_enter Tryz.func85,Tryz.ntmps85
        go_wp2
        go_ret
        exact ⟨by first | rfl | (simp;done) | (simp [*];done),by repeat (first | exact Drawn0.refl _ | apply Drawn0.step)⟩
       ·rw [if_neg c8] at H
        have c8b0 : decide (123 ≤ a0) = false := decide_eq_false c8
        clear c8
        obtain rfl := Option.some.inj H
        go_enter Tryz.func85,Tryz.ntmps85
        go_wp2
        go_ret
        exact ⟨by first | rfl | (simp;done) | (simp [*];done),by repeat (first | exact Drawn0.refl _ | apply Drawn0.step)⟩
     ·rw [if_neg c6] at H
      have c6b0 : decide (91 ≤ a0) = false := decide_eq_false c6
      clear c6
      by_cases c9 : a0 ≥ 123
      ·rw [if_pos c9] at H
       have c9b0 : decide (123 ≤ a0) = true := decide_eq_true c9
       clear c9
       obtain rfl := Option.some.inj H
       go_enter Tryz.func85,Tryz.ntmps85
       go_wp2
       go_ret
       exact ⟨by first | rfl | (simp;done) | (simp [*];done),by repeat (first | exact Drawn0.refl _ | apply Drawn0.step)⟩
      ·rw [if_neg c9] at H
       have c9b0 : decide (123 ≤ a0) = false := decide_eq_false c9
       clear c9
       obtain rfl := Option.some.inj H
       go_enter Tryz.func85,Tryz.ntmps85
       go_wp2
       go_ret
       exact ⟨by first | rfl | (simp;done) | (simp [*];done),by repeat (first | exact Drawn0.refl _ | apply Drawn0.step)⟩
   ·rw [if_neg c4] at H
    have c4b0 : decide (58 ≤ a0) = false := decide_eq_false c4
    clear c4
    by_cases c10 : a0 ≥ 91
    ·rw [if_pos c10] at H
     have c10b0 : decide (91 ≤ a0) = true := decide_eq_true c10
     clear c10
     by_cases c11 : a0 ≤ 96
     ·rw [if_pos c11] at H
      have c11b0 : decide (a0 ≤ 96) = true := decide_eq_true c11
      clear c11
      obtain rfl := Option.some.inj H
      go_enter Tryz.func85,Tryz.ntmps85
      go_wp2
      go_ret
      exact ⟨by first | rfl | (simp;done) | (simp [*];done),by repeat (first | exact Drawn0.refl _ | apply Drawn0.step)⟩
     ·rw [if_neg c11] at H
      have c11b0 : decide (a0 ≤ 96) = false := decide_eq_false c11
      clear c11
      by_cases c12 : a0 ≥ 123
      ·rw [if_pos c12] at H
       have c12b0 : decide (123 ≤ a0) = true := decide_eq_true c12
       clear c12
       obtain rfl := Option.some.inj H
       go_enter Tryz.func85,Tryz.ntmps85
       go_wp2
       go_ret
       exact ⟨by first | rfl | (simp;done) | (simp [*];done),by repeat (first | exact Drawn0.refl _ | apply Drawn0.step)⟩
      ·rw [if_neg c12] at H
       have c12b0 : decide (123 ≤ a0) = false := decide_eq_false c12
       clear c12
       obtain rfl := Option.some.inj H
       go_enter Tryz.func85,Tryz.ntmps85
       go_wp2
       go_ret
       exact ⟨by first | rfl | (simp;done) | (simp [*];done),by repeat (first | exact Drawn0.refl _ | apply Drawn0.step)⟩
    ·rw [if_neg c10] at H
     have c10b0 : decide (91 ≤ a0) = false := decide_eq_false c10
     clear c10
     by_cases c13 : a0 ≥ 123
     ·rw [if_pos c13] at H
      have c13b0 : decide (123 ≤ a0) = true := decide_eq_true c13
      clear c13
      obtain rfl := Option.some.inj H
      go_enter Tryz.func85,Tryz.ntmps85
      go_wp2
      go_ret
      exact ⟨by first | rfl | (simp;done) | (simp [*];done),by repeat (first | exact Drawn0.refl _ | apply Drawn0.step)⟩
     ·rw [if_neg c13] at H
      have c13b0 : decide (123 ≤ a0) = false := decide_eq_false c13
      clear c13
      obtain rfl := Option.some.inj H
      go_enter Tryz.func85,Tryz.ntmps85
      go_wp2
      go_ret
      exact ⟨by first | rfl | (simp;done) | (simp [*];done),by repeat (first | exact Drawn0.refl _ | apply Drawn0.step)⟩
 ·rw [if_neg c2] at H
  have c2b0 : decide (33 ≤ a0) = false := decide_eq_false c2
  clear c2
  by_cases c14 : a0 ≥ 58
  ·rw [if_pos c14] at H
   have c14b0 : decide (58 ≤ a0) = true := decide_eq_true c14
   clear c14
   by_cases c15 : a0 ≤ 64
   ·rw [if_pos c15] at H
    have c15b0 : decide (a0 ≤ 64) = true := decide_eq_true c15
    clear c15
    obtain rfl := Option.some.inj H
    go_enter Tryz.func85,Tryz.ntmps85
    go_wp2
    go_ret
    exact ⟨by first | rfl | (simp;done) | (simp [*];done),by repeat (first | exact Drawn0.refl _ | apply Drawn0.step)⟩
   ·rw [if_neg c15] at H
    have c15b0 : decide (a0 ≤ 64) = false := decide_eq_false c15
    clear c15
    by_cases c16 : a0 ≥ 91
    ·rw [if_pos c16] at H
     have c16b0 : decide (91 ≤ a0) = true := decide_eq_true c16
     clear c16
     by_cases c17 : a0 ≤ 96
     ·rw [if_pos c17] at H
      have c17b0 : decide (a0 ≤ 96) = true := decide_eq_true c17
      clear c17
      obtain rfl := Option.some.inj H
      go_enter Tryz.func85,Tryz.ntmps85
      go_wp2
      go_ret
      exact ⟨by first | rfl | (simp;done) | (simp [*];done),by repeat (first | exact Drawn0.refl _ | apply Drawn0.step)⟩
     ·rw [if_neg c17] at H
      have c17b0 : decide (a0 ≤ 96) = false := decide_eq_false c17
      clear c17
      by_cases c18 : a0 ≥ 123
      ·rw [if_pos c18] at H
       have c18b0 : decide (123 ≤ a0) = true := decide_eq_true c18
       clear c18
       obtain rfl := Option.some.inj H
       go_enter Tryz.func85,Tryz.ntmps85
       go_wp2
       go_ret
       exact ⟨by first | rfl | (simp;done) | (simp [*];done),by repeat (first | exact Drawn0.refl _ | apply Drawn0.step)⟩
      ·rw [if_neg c18] at H
       have c18b0 : decide (123 ≤ a0) = false := decide_eq_false c18
       clear c18
       obtain rfl := Option.some.inj H
       go_enter Tryz.func85,Tryz.ntmps85
       go_wp2
       go_ret
       exact ⟨by first | rfl | (simp;done) | (simp [*];done),by repeat (first | exact Drawn0.refl _ | apply Drawn0.step)⟩
    ·rw [if_neg c16] at H
     have c16b0 : decide (91 ≤ a0) = false := decide_eq_false c16
     clear c16
     by_cases c19 : a0 ≥ 123
     ·rw [if_pos c19] at H
      have c19b0 : decide (123 ≤ a0) = true := decide_eq_true c19
      clear c19
      obtain rfl := Option.some.inj H
      go_enter Tryz.func85,Tryz.ntmps85
      go_wp2
      go_ret
      exact ⟨by first | rfl | (simp;done) | (simp [*];done),by repeat (first | exact Drawn0.refl _ | apply Drawn0.step)⟩
     ·rw [if_neg c19] at H
      have c19b0 : decide (123 ≤ a0) = false := decide_eq_false c19
      clear c19
      obtain rfl := Option.some.inj H
      go_enter Tryz.func85,Tryz.ntmps85
      go_wp2
      go_ret
      exact ⟨by first | rfl | (simp;done) | (simp [*];done),by repeat (first | exact Drawn0.refl _ | apply Drawn0.step)⟩
  ·rw [if_neg c14] at H
   have c14b0 : decide (58 ≤ a0) = false := decide_eq_false c14
   clear c14
   by_cases c20 : a0 ≥ 91
   ·rw [if_pos c20] at H
    have c20b0 : decide (91 ≤ a0) = true := decide_eq_true c20
    clear c20
    by_cases c21 : a0 ≤ 96
    ·rw [if_pos c21] at H
     have c21b0 : decide (a0 ≤ 96) = true := decide_eq_true c21
     clear c21
     obtain rfl := Option.some.inj H
     go_enter Tryz.func85,Tryz.ntmps85
     go_wp2
     go_ret
     exact ⟨by first | rfl | (simp;done) | (simp [*];done),by repeat (first | exact Drawn0.refl _ | apply Drawn0.step)⟩
    ·rw [if_neg c21] at H
     have c21b0 : decide (a0 ≤ 96) = false := decide_eq_false c21
     clear c21
     by_cases c22 : a0 ≥ 123
     ·rw [if_pos c22] at H
      have c22b0 : decide (123 ≤ a0) = true := decide_eq_true c22
      clear c22
      obtain rfl := Option.some.inj H
      go_enter Tryz.func85,Tryz.ntmps85
      go_wp2
      go_ret
      exact ⟨by first | rfl | (simp;done) | (simp [*];done),by repeat (first | exact Drawn0.refl _ | apply Drawn0.step)⟩
     ·rw [if_neg c22] at H
      have c22b0 : decide (123 ≤ a0) = false := decide_eq_false c22
      clear c22
      obtain rfl := Option.some.inj H
      go_enter Tryz.func85,Tryz.ntmps85
      go_wp2
      go_ret
      exact ⟨by first | rfl | (simp;done) | (simp [*];done),by repeat (first | exact Drawn0.refl _ | apply Drawn0.step)⟩
   ·rw [if_neg c20] at H
    have c20b0 : decide (91 ≤ a0) = false := decide_eq_false c20
    clear c20
    by_cases c23 : a0 ≥ 123
    ·rw [if_pos c23] at H
     have c23b0 : decide (123 ≤ a0) = true := decide_eq_true c23
     clear c23
     obtain rfl := Option.some.inj H
     go_enter Tryz.func85,Tryz.ntmps85
     go_wp2
     go_ret
     exact ⟨by first | rfl | (simp;done) | (simp [*];done),by repeat (first | exact Drawn0.refl _ | apply Drawn0.step)⟩
    ·rw [if_neg c23] at H
     have c23b0 : decide (123 ≤ a0) = false := decide_eq_false c23
     clear c23
     obtain rfl := Option.some.inj H
     go_enter Tryz.func85,Tryz.ntmps85
     go_wp2
     go_ret
     exact ⟨by first | rfl | (simp;done) | (simp [*];done),by repeat (first | exact Drawn0.refl _ | apply Drawn0.step)⟩

/-! ### incipitref09_marks: function 55 -/
def incipitref09_marks.l0 : Nat → ByteArray → List Bool → Int → Option (List Bool)
 | 0,_,_,_ => none
 | k + 1,x0,x3,x4 => if (wrap64 (x4 + 1)) < (x0.size : Int) then (if 0 ≤ x4 then (if x4 < (x0.size : Int) then (if (bt x0 x4) = 92 then (if 0 ≤ (wrap64 (x4 + 1)) then ((incipitref05_Sign.f (bt x0 (wrap64 (x4 + 1)))).bind fun t265 => (if t265 = true then (if (wrap64 (x4 + 1)) < (x3.length : Int) then (incipitref09_marks.l0 k x0 (x3.set ((wrap64 (x4 + 1)) : Int).toNat true) (wrap64 ((wrap64 (x4 + 1)) + 1))) else (none)) else (incipitref09_marks.l0 k x0 x3 (wrap64 (x4 + 1))))) else (none)) else (incipitref09_marks.l0 k x0 x3 (wrap64 (x4 + 1)))) else (none)) else (none)) else (some x3)
def incipitref09_marks.f (k : Nat) (a0 : ByteArray) : Option (List Bool) := if 0 ≤ (a0.size : Int) then (if ((a0.size : Int) : Int).toNat ≤ 281474976710656 then (incipitref09_marks.l0 k a0 (List.replicate ((a0.size : Int) : Int).toNat false) 0) else (none)) else (none)
set_option maxHeartbeats 8000000 in
set_option maxRecDepth 100000 in
theorem incipitref09_marks.calls (k : Nat) (a0 : ByteArray) (r : List Bool) (w : World) (h : incipitref09_marks.f k a0 = some r) :
  Calls Tryz.prog 55 #[.string a0] w fun e w' => ∃ v0_ : Value,e = .returned (v0_) ∧ Kd.R Kd.bool 4 w' w.heap.size (fun _ => True) v0_ r ∧ Below w.heap.size w w' := by
 have HB := Aside0.mk (Below.refl w.heap.size w)
 have H : (if 0 ≤ (a0.size : Int) then (if ((a0.size : Int) : Int).toNat ≤ 281474976710656 then (incipitref09_marks.l0 k a0 (List.replicate ((a0.size : Int) : Int).toNat false) 0) else (none)) else (none)) = some r := h
 clear h
 by_cases c2 : 0 ≤ (a0.size : Int)
 ·rw [if_pos c2] at H
  have c2b0 := eq_true c2
  have c2b1 : decide (0 ≤ (a0.size : Int)) = true := decide_eq_true c2
  clear c2
  by_cases c3 : ((a0.size : Int) : Int).toNat ≤ 281474976710656
  ·rw [if_pos c3] at H
   have c3b0 := eq_true c3
   have c3b1 : decide (((a0.size : Int) : Int).toNat ≤ 281474976710656) = true := decide_eq_true c3
   clear c3
   obtain ⟨y262,hy262⟩ : ∃ y_ : List Bool,y_ = (List.replicate ((a0.size : Int) : Int).toNat false) := ⟨_,rfl⟩
   replace H : (incipitref09_marks.l0 k a0 y262 0) = some r := by first | (rw [hy262];with_reducible exact H) | (have H2_ := (Option.bind_some _ _).symm.trans H;rw [hy262];with_reducible exact H2_) | (have H2_ := (Option.bind_some _ _).symm.trans H;with_reducible exact H2_) | with_reducible exact H | (rw [hy262];exact H) | exact H
   have Ny262 := Aside0.mk hy262
   clear hy262
   have H' := Aside0.mk H
   clear H
   go_enter Tryz.func55,Tryz.ntmps55
   go_wp2_with (first | ((with_reducible refine gate_dst (N := 7) rfl ?_);refine Kd.R_make Kd.bool _ 4 rfl (N := 7) rfl 67 _ _ rfl (a0.size : Int) rfl rfl Tryz.underlying67 (.bool false) 1 info4 rfl (by decide) (by omega) false (ok := fun _ => True) (okp := fun _ => True) rfl (fun _ hk => hk) trivial (of_decide_eq_true (by first | (with_reducible assumption) | assumption)) (Nat.le_trans (Nat.mul_le_mul_right _ (of_decide_eq_true (by first | (with_reducible assumption) | assumption) : (a0.size : Int).toNat ≤ 281474976710656)) (by omega)) (Below.refl _ _) (Nat.le_refl _) ?_;intro v263 w4 ho5 hb hg_ hnew_;clear hg_ hnew_;(first | rw [← Ny262.out] at ho5 | (simp only [Int.reduceToNat] at ho5;rw [← Ny262.out] at ho5));have n0_ := Aside0.mk (Kd.R_lower ho5 (below_size (by repeat (first | (with_reducible first | exact HB.out | apply below_alloc | apply pw_below_drewN | apply below_drew1) | exact HB.out))));have n1_ := Aside0.mk (below_step (by repeat (first | (with_reducible first | exact HB.out | apply below_alloc | apply pw_below_drewN | apply below_drew1) | exact HB.out)) hb);clear HB;have HO264 := n0_;have HB := n1_;clear n0_ n1_;clear hb ho5))
   go_loopg [4] k (fun kq v4 w' => ∃ (x3_1 : List Bool) (x4_1 : Int),v4 = .int .i64 x4_1 ∧ Aside0 (incipitref09_marks.l0 kq a0 x3_1 x4_1 = some r) ∧ Aside0 (kq ≤ k) ∧ Aside0 (Kd.R Kd.bool 4 w' w.heap.size (fun _ => True) v263 x3_1) ∧ Aside0 (Below w.heap.size w w'))
   case atStart => exact ⟨(y262),(0),(by first | rfl | (simp;done) | (simp [*];done)),H',⟨Nat.le_refl _⟩,⟨by (with_reducible repeat (first | apply Kd.R_alloc | apply Kd.R_drewN | apply Kd.R_drew));exact HO264.out⟩,⟨by repeat (first | (with_reducible first | exact HB.out | apply below_alloc | apply pw_below_drewN | apply below_drew1) | exact HB.out)⟩⟩
   case round =>
    clear H'
    try clear c2
    try clear c2b0
    try clear c2b1
    try clear p2
    try clear c3
    try clear c3b0
    try clear c3b1
    try clear c5
    obtain ⟨x3_1,x4_1,rfl,HA,HK1,HO_3,HB⟩ := hrel
    cases gk with
    | zero => exact absurd HA.out (by simp [incipitref09_marks.l0])
    | succ k1 =>
     have H := HA.out
     clear HA
     simp only [incipitref09_marks.l0] at H
     by_cases c6 : (wrap64 (x4_1 + 1)) < (a0.size : Int)
     ·rw [if_pos c6] at H
      have c6b0 : decide ((wrap64 (x4_1 + 1)) < (a0.size : Int)) = true := decide_eq_true c6
      clear c6
      by_cases c7 : 0 ≤ x4_1
      ·rw [if_pos c7] at H
       have c7b0 : decide (0 ≤ x4_1) = true := decide_eq_true c7
       clear c7
       by_cases c8 : x4_1 < (a0.size : Int)
       ·rw [if_pos c8] at H
        have c8b0 : decide (x4_1 < (a0.size : Int)) = true := decide_eq_true c8
        clear c8
        by_cases c10 : (bt a0 x4_1) = 92
        ·rw [if_pos c10] at H
         have c10b0 : ((bt a0 x4_1) == 92) = true := beq_iff_eq.mpr c10
         have c10b1 : ((bt a0 x4_1) != 92) = false := bne_eq_false_iff_eq.mpr c10
         clear c10
         obtain ⟨ji11,hji11⟩ : ∃ j_ : Int,(wrap64 (x4_1 + 1)) = j_ := ⟨_,rfl⟩
         replace H : (if 0 ≤ (ji11) then ((incipitref05_Sign.f (bt a0 (ji11))).bind fun t265 => (if t265 = true then (if (ji11) < (x3_1.length : Int) then (incipitref09_marks.l0 k1 a0 (x3_1.set ((ji11) : Int).toNat true) (wrap64 ((ji11) + 1))) else (none)) else (incipitref09_marks.l0 k1 a0 x3_1 ji11))) else (none)) = some r := by first | (rw [hji11] at H;exact H) | (simp only [hji11] at H ⊢;exact H)
         (try rw [hji11] at c6b0)
         have hji11w : (IntKind.i64.wrap (x4_1 + 1)) = ji11 := (i64_w _).trans hji11
         by_cases c12 : 0 ≤ (ji11)
         ·rw [if_pos c12] at H
          have c12b0 : decide (0 ≤ (ji11)) = true := decide_eq_true c12
          clear c12
          replace H := Option.bind_eq_some_iff.mp H
          obtain ⟨t265,A140,H⟩ := H
          replace H : (if t265 = true then (if (ji11) < (x3_1.length : Int) then (incipitref09_marks.l0 k1 a0 (x3_1.set ((ji11) : Int).toNat true) (wrap64 ((ji11) + 1))) else (none)) else (incipitref09_marks.l0 k1 a0 x3_1 ji11)) = some r := H
          have A14 := Aside0.mk A140
          clear A140
          by_cases c15 : t265 = true
          ·subst c15
           have H1 : (if (ji11) < (x3_1.length : Int) then (incipitref09_marks.l0 k1 a0 (x3_1.set ((ji11) : Int).toNat true) (wrap64 ((ji11) + 1))) else (none)) = some r := by rw [if_pos rfl] at H;exact H
           clear H
           have H := H1
           clear H1
           by_cases c16 : (ji11) < (x3_1.length : Int)
           ·rw [if_pos c16] at H
            have c16b0 : decide ((ji11) < (x3_1.length : Int)) = true := decide_eq_true c16
            clear c16
            obtain ⟨y266,hy266⟩ : ∃ y_ : List Bool,y_ = (x3_1.set ((ji11) : Int).toNat true) := ⟨_,rfl⟩
            replace H : (incipitref09_marks.l0 k1 a0 y266 (wrap64 ((ji11) + 1))) = some r := by first | (rw [hy266];with_reducible exact H) | (have H2_ := (Option.bind_some _ _).symm.trans H;rw [hy266];with_reducible exact H2_) | (have H2_ := (Option.bind_some _ _).symm.trans H;with_reducible exact H2_) | with_reducible exact H | (rw [hy266];exact H) | exact H
            have Ny266 := Aside0.mk hy266
            clear hy266
            have H' := Aside0.mk H
            clear H
            have p9 : 0 ≤ (x4_1 : Int) := of_decide_eq_true (by first | (with_reducible assumption) | assumption)
            have q9 : x4_1 < (a0.size : Int) := of_decide_eq_true (by first | (with_reducible assumption) | assumption)
            have hx9 := bt_at a0 x4_1
            replace p9 := eq_true p9
            replace q9 := eq_true q9
            have p13 : 0 ≤ ((ji11) : Int) := of_decide_eq_true (by first | (with_reducible assumption) | assumption)
            have q13 : (ji11) < (a0.size : Int) := of_decide_eq_true (by first | (with_reducible assumption) | assumption)
            have hx13 := bt_at a0 (ji11)
            replace p13 := eq_true p13
            replace q13 := eq_true q13
            go_wp2_with (first | (go_at_call 85;(with_reducible refine (incipitref05_Sign.calls (bt a0 (ji11)) true _ A14.out).mono ?_);rintro e w' ⟨rfl,⟨nd,rfl⟩⟩;(try (rw [drewN_self wr];generalize hq_ : World.drewN wr _ = wr;have n0_ : Aside0 (Kd.R Kd.bool 4 wr w.heap.size (fun _ => True) v263 x3_1) := ⟨by rw [← hq_];exact (by (with_reducible repeat (first | apply Kd.R_alloc | apply Kd.R_drewN | apply Kd.R_drew));exact HO_3.out)⟩;have n1_ : Aside0 (Below w.heap.size w wr) := ⟨by rw [← hq_];exact (by repeat (first | (with_reducible first | exact HB.out | apply below_alloc | apply pw_below_drewN | apply below_drew1) | exact HB.out))⟩;clear HO_3 HB hq_;have HO_3 := n0_;have HB := n1_;clear n0_ n1_));have p17 : 0 ≤ ((ji11) : Int) := of_decide_eq_true (by first | (with_reducible assumption) | assumption);have q17 : ((ji11) : Int) < ((x3_1.length : Int) : Int) := of_decide_eq_true (by first | (with_reducible assumption) | assumption);obtain ⟨go17,co17,eo17,gb17,gl17,cl17,HG17⟩ := Kd.R_form HO_3.out (by omega);(first | cases eo17 | (injection eo17 with ea_ en_ ec_;(first | subst ea_ | (injection ea_ with ea_;subst ea_));subst ec_;clear en_));have GB17 := Aside0.mk gb17;have GG17 := Aside0.mk HG17;clear gb17 gl17 HG17;obtain ⟨hx17_0,hf17_0⟩ := Kd.R_celln false HO_3.out ((ji11) : Int) p17 q17;replace p17 := eq_true p17;replace q17 := eq_true q17;obtain ⟨hy18_,hz18_⟩ := Kd.R_celln false HO_3.out ((ji11) : Int) (of_decide_eq_true (by first | (with_reducible assumption) | assumption)) (of_decide_eq_true (by first | (with_reducible assumption) | assumption));have HP18 := Kd.R_putg HO_3.out ((ji11) : Int) true) | ((with_reducible refine gate_store (t := 4) (p := 29) rfl ?_);refine store_event (t := 4) (p := 29) (v := ?vo_w19) (w1 := (wr.setCell ⟨go17,((ji11) : Int).toNat,none⟩ (.bool true))) ?hg ?ho ?hn ?hr ?_;(case ho => rfl);(case hg => rfl);(case hn => rfl);(case hr => first | (go_simp;done) | (go_simp;rfl));intro w19 hw;have hg : wr.grownBy w19 (some go17) := (by rw [hw];exact HP18.2);have hp_ : Kd.R Kd.bool 4 w19 w.heap.size (fun _ => True) (.slice (some ⟨go17,0,none⟩) x3_1.length co17) y266 := (by rw [hw,Ny266.out];exact HP18.1);clear HP18;have n0_ := Aside0.mk (hp_);have n1_ := Aside0.mk ((by rw [hw];exact below_set (HB.out) GB17.out : Below w.heap.size w w19));clear HO_3;clear HB;have HO_3 := n0_;have HB := n1_;clear n0_ n1_;clear hg hw hp_))
            go_roundg k1
            case measure => have := HK1.out;omega
            case rel => exact ⟨(y266),(wrap64 ((ji11) + 1)),(by first | rfl | (simp;done) | (simp only [← hji11] <;> (first | rfl | simp)) | (simp [*];done)),H',⟨by have := HK1.out;omega⟩,⟨by (with_reducible repeat (first | apply Kd.R_alloc | apply Kd.R_drewN | apply Kd.R_drew));exact HO_3.out⟩,⟨by repeat (first | (with_reducible first | exact HB.out | apply below_alloc | apply pw_below_drewN | apply below_drew1) | exact HB.out)⟩⟩
           ·rw [if_neg c16] at H
            exact absurd H (by simp)
          ·replace c15 := Bool.eq_false_iff.mpr c15
           subst c15
           have H1 : (incipitref09_marks.l0 k1 a0 x3_1 ji11) = some r := by rw [if_neg (show ¬ (false = true) by decide)] at H;exact H
           clear H
           have H := H1
           clear H1
           have H' := Aside0.mk H
           clear H
           have p9 : 0 ≤ (x4_1 : Int) := of_decide_eq_true (by first | (with_reducible assumption) | assumption)
           have q9 : x4_1 < (a0.size : Int) := of_decide_eq_true (by first | (with_reducible assumption) | assumption)
           have hx9 := bt_at a0 x4_1
           replace p9 := eq_true p9
           replace q9 := eq_true q9
           have p13 : 0 ≤ ((ji11) : Int) := of_decide_eq_true (by first | (with_reducible assumption) | assumption)
           have q13 : (ji11) < (a0.size : Int) := of_decide_eq_true (by first | (with_reducible assumption) | assumption)
           have hx13 := bt_at a0 (ji11)
           replace p13 := eq_true p13
           replace q13 := eq_true q13
           go_wp2_with (first | (go_at_call 85;(with_reducible refine (incipitref05_Sign.calls (bt a0 (ji11)) false _ A14.out).mono ?_);rintro e w' ⟨rfl,⟨nd,rfl⟩⟩))
           go_roundg k1
           case measure => have := HK1.out;omega
           case rel => exact ⟨(x3_1),(ji11),(by first | rfl | (simp;done) | (simp only [← hji11] <;> (first | rfl | simp)) | (simp [*];done)),H',⟨by have := HK1.out;omega⟩,⟨by (with_reducible repeat (first | apply Kd.R_alloc | apply Kd.R_drewN | apply Kd.R_drew));exact HO_3.out⟩,⟨by repeat (first | (with_reducible first | exact HB.out | apply below_alloc | apply pw_below_drewN | apply below_drew1) | exact HB.out)⟩⟩
         ·rw [if_neg c12] at H
          exact absurd H (by simp)
        ·rw [if_neg c10] at H
         have c10b0 : ((bt a0 x4_1) == 92) = false := beq_eq_false_iff_ne.mpr c10
         have c10b1 : ((bt a0 x4_1) != 92) = true := bne_iff_ne.mpr c10
         have H' := Aside0.mk H
         clear H
         have p9 : 0 ≤ (x4_1 : Int) := of_decide_eq_true (by first | (with_reducible assumption) | assumption)
         have q9 : x4_1 < (a0.size : Int) := of_decide_eq_true (by first | (with_reducible assumption) | assumption)
         have hx9 := bt_at a0 x4_1
         replace p9 := eq_true p9
         replace q9 := eq_true q9
         go_wp2
         go_roundg k1
         case measure => have := HK1.out;omega
         case rel => exact ⟨(x3_1),(wrap64 (x4_1 + 1)),(by first | rfl | (simp;done) | (simp [*];done)),H',⟨by have := HK1.out;omega⟩,⟨by (with_reducible repeat (first | apply Kd.R_alloc | apply Kd.R_drewN | apply Kd.R_drew));exact HO_3.out⟩,⟨by repeat (first | (with_reducible first | exact HB.out | apply below_alloc | apply pw_below_drewN | apply below_drew1) | exact HB.out)⟩⟩
       ·rw [if_neg c8] at H
        exact absurd H (by simp)
      ·rw [if_neg c7] at H
       exact absurd H (by simp)
     ·rw [if_neg c6] at H
      have c6b0 : decide ((wrap64 (x4_1 + 1)) < (a0.size : Int)) = false := decide_eq_false c6
      clear c6
      obtain rfl := Option.some.inj H
      go_wp2
      go_ret
      exact ⟨_,by first | rfl | (simp [errW_none,errW_some] <;> rfl) | (simp [*,errW_none,errW_some] <;> rfl),by (with_reducible repeat (first | apply Kd.R_alloc | apply Kd.R_drewN | apply Kd.R_drew));exact HO_3.out,by repeat (first | (with_reducible first | exact HB.out | apply below_alloc | apply pw_below_drewN | apply below_drew1) | exact HB.out)⟩
  ·rw [if_neg c3] at H
   exact absurd H (by simp)
 ·rw [if_neg c2] at H
  exact absurd H (by simp)

/-! ### incipitref09_white: function 86 -/
def incipitref09_white.f (a0 : Int) : Option (Bool) := if a0 = 32 then (some true) else (if a0 = 9 then (some true) else (some (a0 == 10)))
set_option maxHeartbeats 8000000 in
set_option maxRecDepth 100000 in
theorem incipitref09_white.calls (a0 : Int) (r : Bool) (w : World) (h : incipitref09_white.f a0 = some r) :
  Calls Tryz.prog 86 #[.int .u8 a0] w fun e w' => e = .returned (.bool r) ∧ Drawn0 w w' := by
 have H : (if a0 = 32 then (some true) else (if a0 = 9 then (some true) else (some (a0 == 10)))) = some r := h
 clear h
 by_cases c2 : a0 = 32
 ·rw [if_pos c2] at H
  have c2b0 : (a0 == 32) = true := beq_iff_eq.mpr c2
  have c2b1 : (a0 != 32) = false := bne_eq_false_iff_eq.mpr c2
  clear c2
  obtain rfl := Option.some.inj H
  go_enter Tryz.func86,Tryz.ntmps86
  go_wp2
  go_ret
  exact ⟨by first | rfl | (simp;done) | (simp [*];done),by repeat (first | exact Drawn0.refl _ | apply Drawn0.step)⟩
 ·rw [if_neg c2] at H
  have c2b0 : (a0 == 32) = false := beq_eq_false_iff_ne.mpr c2
  have c2b1 : (a0 != 32) = true := bne_iff_ne.mpr c2
  by_cases c3 : a0 = 9
  ·rw [if_pos c3] at H
   have c3b0 : (a0 == 9) = true := beq_iff_eq.mpr c3
   have c3b1 : (a0 != 9) = false := bne_eq_false_iff_eq.mpr c3
   clear c3
   obtain rfl := Option.some.inj H
   go_enter Tryz.func86,Tryz.ntmps86
   go_wp2
   go_ret
   exact ⟨by first | rfl | (simp;done) | (simp [*];done),by repeat (first | exact Drawn0.refl _ | apply Drawn0.step)⟩
  ·rw [if_neg c3] at H
   have c3b0 : (a0 == 9) = false := beq_eq_false_iff_ne.mpr c3
   have c3b1 : (a0 != 9) = true := bne_iff_ne.mpr c3
   obtain rfl := Option.some.inj H
   go_enter Tryz.func86,Tryz.ntmps86
   go_wp2
   go_ret
   exact ⟨by first | rfl | (simp;done) | (simp [*];done),by repeat (first | exact Drawn0.refl _ | apply Drawn0.step)⟩

end Go.Proofs.YtekifcbokdidlaaGreatDoor.PA
