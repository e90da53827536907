/-
  Texts of the proof of RefsTakes, part 8 of 9: contracts and plain laws. Conditions: see each statement.
-/
import Derived.Test.YtekifcbokdidlaaGreatDoorSRefsTakes1
import Derived.Test.YtekifcbokdidlaaGreatDoorSRefsTakes2
import Derived.Test.YtekifcbokdidlaaGreatDoorSRefsTakes3
import Derived.Test.YtekifcbokdidlaaGreatDoorSRefsTakes5
import Derived.Test.YtekifcbokdidlaaGreatDoorSRefsTakes4
import Derived.Test.YtekifcbokdidlaaGreatDoorSRefsTakes6
import Derived.Test.YtekifcbokdidlaaGreatDoorSRefsTakes7
set_option linter.unusedVariables false
namespace Go.Proofs.YtekifcbokdidlaaGreatDoor.PA
open Go.RowKit Go.Proofs.YtekifcbokdidlaaGreatDoorW.PrintWords Go.Proofs.YtekifcbokdidlaaGreatDoorW.PrintLast Go.Proofs.YtekifcbokdidlaaGreatDoorW.PrintMore
attribute [local go_sem] max2_int min2_int max_two min_two max_three min_three max_four min_four   -- for this text's walks alone
set_option linter.unusedVariables false
set_option linter.unusedSimpArgs false

/-! ### incipitref03_among: function 95 -/
def incipitref03_among.l0 : Nat → Int → List Int → Int → Option (Bool)
  | 0,_,_,_ => none
  | k + 1,x0,x1,x5 => if (wrap64 (x5 + 1)) < (x1.length : Int) then (if 0 ≤ x5 then (if x5 < (x1.length : Int) then (if (rd x1 x5) ≤ x0 then (if 0 ≤ (wrap64 (x5 + 1)) then (if x0 ≤ (rd x1 (wrap64 (x5 + 1))) then (some true) else (incipitref03_among.l0 k x0 x1 (wrap64 (x5 + 2)))) else (none)) else (incipitref03_among.l0 k x0 x1 (wrap64 (x5 + 2)))) else (none)) else (none)) else (some false)
def incipitref03_among.f (k : Nat) (a0 : Int) (l1 : List Int) : Option (Bool) := incipitref03_among.l0 k a0 l1 0
set_option maxHeartbeats 8000000 in
set_option maxRecDepth 100000 in
theorem incipitref03_among.calls (k : Nat) (a0 : Int) (A1 : Option Addr) (c1 : Nat) (l1 : List Int) (r : Bool) (w : World) (hr1 : Kd.C (Kd.int .i32) w A1 l1.length l1) (hc1 : l1.length ≤ c1) (h : incipitref03_among.f k a0 l1 = some r) :
  Calls Tryz.prog 95 #[.int .i32 a0,.slice A1 l1.length c1] w fun e w' => e = .returned (.bool r) ∧ Drawn0 w w' := by
 have HR1 := Aside0.mk hr1
 have HC1 := Aside0.mk hc1
 clear hr1 hc1
 have H : (incipitref03_among.l0 k a0 l1 0) = some r := h
 clear h
 have H' := Aside0.mk H
 clear H
 go_enter Tryz.func95,Tryz.ntmps95
 go_wp2
 go_loopg [5] k (fun kq v5 w' => ∃ (x5_1 : Int),v5 = .int .i64 x5_1 ∧ Aside0 (incipitref03_among.l0 kq a0 l1 x5_1 = some r) ∧ Aside0 (kq ≤ k) ∧ Drawn0 w w')
 case atStart => exact ⟨(0),(by first | rfl | (simp;done) | (simp [*];done)),H',⟨Nat.le_refl _⟩,by repeat (first | exact Drawn0.refl _ | apply Drawn0.step)⟩
 case round =>
  clear H'
  try clear c1
  try clear p2
  obtain ⟨x5_1,rfl,HA,HK1,⟨m1,rfl⟩⟩ := hrel
  cases gk with
  | zero => exact absurd HA.out (by simp [incipitref03_among.l0])
  | succ k1 =>
   have H := HA.out
   clear HA
   simp only [incipitref03_among.l0] at H
   by_cases c3 : (wrap64 (x5_1 + 1)) < (l1.length : Int)
   ·rw [if_pos c3] at H
    have c3b0 : decide ((wrap64 (x5_1 + 1)) < (l1.length : Int)) = true := decide_eq_true c3
    clear c3
    by_cases c4 : 0 ≤ x5_1
    ·rw [if_pos c4] at H
     have c4b0 : decide (0 ≤ x5_1) = true := decide_eq_true c4
     clear c4
     by_cases c5 : x5_1 < (l1.length : Int)
     ·rw [if_pos c5] at H
      have c5b0 : decide (x5_1 < (l1.length : Int)) = true := decide_eq_true c5
      clear c5
      by_cases c6 : (rd l1 x5_1) ≤ a0
      ·rw [if_pos c6] at H
       have c6b0 : decide ((rd l1 x5_1) ≤ a0) = true := decide_eq_true c6
       clear c6
       obtain ⟨ji7,hji7⟩ : ∃ j_ : Int,(wrap64 (x5_1 + 1)) = j_ := ⟨_,rfl⟩
       replace H : (if 0 ≤ (ji7) then (if a0 ≤ (rd l1 (ji7)) then (some true) else (incipitref03_among.l0 k1 a0 l1 (wrap64 (x5_1 + 2)))) else (none)) = some r := by first | (rw [hji7] at H;exact H) | (simp only [hji7] at H ⊢;exact H)
       (try rw [hji7] at c3b0)
       have hji7w : (IntKind.i64.wrap (x5_1 + 1)) = ji7 := (i64_w _).trans hji7
       by_cases c8 : 0 ≤ (ji7)
       ·rw [if_pos c8] at H
        have c8b0 : decide (0 ≤ (ji7)) = true := decide_eq_true c8
        clear c8
        by_cases c9 : a0 ≤ (rd l1 (ji7))
        ·rw [if_pos c9] at H
         have c9b0 : decide (a0 ≤ (rd l1 (ji7))) = true := decide_eq_true c9
         clear c9
         obtain rfl := Option.some.inj H
         have p150 : 0 ≤ (x5_1 : Int) := of_decide_eq_true (by first | (with_reducible assumption) | assumption)
         have q150 : x5_1 < (l1.length : Int) := of_decide_eq_true (by first | (with_reducible assumption) | assumption)
         obtain ⟨ad150,e150,hx150_0⟩ := Kd.at_int HR1.out x5_1 p150 q150
         cases e150
         replace p150 := eq_true p150
         replace q150 := eq_true q150
         have p151 : 0 ≤ ((ji7) : Int) := of_decide_eq_true (by first | (with_reducible assumption) | assumption)
         have q151 : (ji7) < (l1.length : Int) := of_decide_eq_true (by first | (with_reducible assumption) | assumption)
         obtain ⟨ad151,e151,hx151_0⟩ := Kd.at_int HR1.out (ji7) p151 q151
         obtain rfl : ad150 = ad151 := (by injection e151)
         replace p151 := eq_true p151
         replace q151 := eq_true q151
         go_wp2
         go_ret
         exact ⟨by first | rfl | (simp;done) | (simp only [← hji7] <;> (first | rfl | simp)) | (simp [*];done),by repeat (first | exact Drawn0.refl _ | apply Drawn0.step)⟩
        ·rw [if_neg c9] at H
         have c9b0 : decide (a0 ≤ (rd l1 (ji7))) = false := decide_eq_false c9
         clear c9
         have H' := Aside0.mk H
         clear H
         have p150 : 0 ≤ (x5_1 : Int) := of_decide_eq_true (by first | (with_reducible assumption) | assumption)
         have q150 : x5_1 < (l1.length : Int) := of_decide_eq_true (by first | (with_reducible assumption) | assumption)
         obtain ⟨ad150,e150,hx150_0⟩ := Kd.at_int HR1.out x5_1 p150 q150
         cases e150
         replace p150 := eq_true p150
         replace q150 := eq_true q150
         have p151 : 0 ≤ ((ji7) : Int) := of_decide_eq_true (by first | (with_reducible assumption) | assumption)
         have q151 : (ji7) < (l1.length : Int) := of_decide_eq_true (by first | (with_reducible assumption) | assumption)
         obtain ⟨ad151,e151,hx151_0⟩ := Kd.at_int HR1.out (ji7) p151 q151
         obtain rfl : ad150 = ad151 := (by injection e151)
         replace p151 := eq_true p151
         replace q151 := eq_true q151
         go_wp2
         go_roundg k1
         case measure => have := HK1.out;omega
         case rel => exact ⟨(wrap64 (x5_1 + 2)),(by first | rfl | (simp;done) | (simp [*];done)),H',⟨by have := HK1.out;omega⟩,by repeat (first | exact Drawn0.refl _ | apply Drawn0.step)⟩
       ·rw [if_neg c8] at H
        exact absurd H (by simp)
      ·rw [if_neg c6] at H
       have c6b0 : decide ((rd l1 x5_1) ≤ a0) = false := decide_eq_false c6
       clear c6
       have H' := Aside0.mk H
       clear H
       have p150 : 0 ≤ (x5_1 : Int) := of_decide_eq_true (by first | (with_reducible assumption) | assumption)
       have q150 : x5_1 < (l1.length : Int) := of_decide_eq_true (by first | (with_reducible assumption) | assumption)
       obtain ⟨ad150,e150,hx150_0⟩ := Kd.at_int HR1.out x5_1 p150 q150
       cases e150
       replace p150 := eq_true p150
       replace q150 := eq_true q150
       go_wp2
       go_roundg k1
       case measure => have := HK1.out;omega
       case rel => exact ⟨(wrap64 (x5_1 + 2)),(by first | rfl | (simp;done) | (simp [*];done)),H',⟨by have := HK1.out;omega⟩,by repeat (first | exact Drawn0.refl _ | apply Drawn0.step)⟩
     ·rw [if_neg c5] at H
      exact absurd H (by simp)
    ·rw [if_neg c4] at H
     exact absurd H (by simp)
   ·rw [if_neg c3] at H
    have c3b0 : decide ((wrap64 (x5_1 + 1)) < (l1.length : Int)) = false := decide_eq_false c3
    clear c3
    obtain rfl := Option.some.inj H
    go_wp2
    go_ret
    exact ⟨by first | rfl | (simp;done) | (simp [*];done),by repeat (first | exact Drawn0.refl _ | apply Drawn0.step)⟩

/-! ### incipitref03_fold: function 70 -/
def incipitref03_fold.j0 : Nat → Int → Bool → Option (ByteArray)
  | 0,_,_ => none
  | k + 1,x0,x8 => if x8 = true then (some (⟨#[115,115]⟩ : ByteArray)) else ((incipitref03_among.f k x0 (([65,90,192,214,216,222,913,929,931,939,1040,1071] : List Int))).bind fun t155 => (if t155 = true then (some (Go.Utf8.encode (wrap32 (x0 + 32)))) else ((incipitref03_among.f k x0 (([1024,1039] : List Int))).bind fun t159 => (if t159 = true then (some (Go.Utf8.encode (wrap32 (x0 + 80)))) else (if x0 = 962 then (some (⟨#[207,131]⟩ : ByteArray)) else (some (Go.Utf8.encode x0)))))))
def incipitref03_fold.f (k : Nat) (a0 : Int) : Option (ByteArray) := if a0 = 223 then (incipitref03_fold.j0 k a0 true) else (incipitref03_fold.j0 k a0 (a0 == 7838))
set_option maxHeartbeats 8000000 in
set_option maxRecDepth 100000 in
theorem incipitref03_fold.calls (k : Nat) (a0 : Int) (r : ByteArray) (w : World) (h : incipitref03_fold.f k a0 = some r) :
    Calls Tryz.prog 70 #[.int .i32 a0] w fun e w' => e = .returned (.string r) ∧ Below w.heap.size w w' := by
  have HB := Aside0.mk (Below.refl w.heap.size w)
  have H : (if a0 = 223 then (incipitref03_fold.j0 k a0 true) else (incipitref03_fold.j0 k a0 (a0 == 7838))) = some r := h
  clear h
  have HC2 := Aside0.mk H
  clear H
  go_enter Tryz.func70,Tryz.ntmps70
  go_upto_region 1 with (fail)
  go_cut [8] (fun v8 wc => ∃ (kq : Nat) (x8_1 : Bool),v8 = .bool x8_1 ∧ Aside0 (incipitref03_fold.j0 kq a0 x8_1 = some r) ∧ Aside0 (kq ≤ k) ∧ Aside0 (Below w.heap.size w wc))
  case first =>
    have H := HC2.out
    clear HC2
    by_cases c3 : a0 = 223
    · rw [if_pos c3] at H
      have c3b0 : (a0 == 223) = true := beq_iff_eq.mpr c3
      have c3b1 : (a0 != 223) = false := bne_eq_false_iff_eq.mpr c3
      clear c3
      (first | rw [c3b0] | (simp only [i64_w,i32_w];rw [c3b0]) | skip)
      have H' := Aside0.mk H
      clear H
      go_wp2
      go_meet
      case rel => exact ⟨_,(true),(by first | rfl | (simp;done) | (simp [*];done)),H',⟨by first | omega | exact Nat.le_refl _⟩,⟨by repeat (first | (with_reducible first | exact HB.out | apply below_alloc | apply pw_below_drewN | apply below_drew1) | exact HB.out)⟩⟩
    · rw [if_neg c3] at H
      have c3b0 : (a0 == 223) = false := beq_eq_false_iff_ne.mpr c3
      have c3b1 : (a0 != 223) = true := bne_iff_ne.mpr c3
      (first | rw [c3b0] | (simp only [i64_w,i32_w];rw [c3b0]) | skip)
      have H' := Aside0.mk H
      clear H
      go_wp2
      go_meet
      case rel => exact ⟨_,((a0 == 7838)),(by first | rfl | (simp;done) | (simp [*];done)),H',⟨by first | omega | exact Nat.le_refl _⟩,⟨by repeat (first | (with_reducible first | exact HB.out | apply below_alloc | apply pw_below_drewN | apply below_drew1) | exact HB.out)⟩⟩
  case rest =>
    clear HC2
    try clear p2
    try clear c3
    try clear c3b0
    try clear c3b1
    obtain ⟨kq,x8_1,rfl,HA,HJ1,HB⟩ := hcut
    cases kq with
    | zero => exact absurd HA.out (by simp [incipitref03_fold.j0])
    | succ kj1 =>
      have H := HA.out
      clear HA
      simp only [incipitref03_fold.j0] at H
      by_cases c4 : x8_1 = true
      · subst c4
        have H1 : (some (⟨#[115,115]⟩ : ByteArray)) = some r := by rw [if_pos rfl] at H;exact H
        clear H
        have H := H1
        clear H1
        obtain rfl := Option.some.inj H
        go_wp2
        go_ret
        exact ⟨by first | rfl | (simp [errW_none,errW_some] <;> rfl) | (simp [*,errW_none,errW_some] <;> rfl),by repeat (first | (with_reducible first | exact HB.out | apply below_alloc | apply pw_below_drewN | apply below_drew1) | exact HB.out)⟩
      · replace c4 := Bool.eq_false_iff.mpr c4
        subst c4
        have H1 : ((incipitref03_among.f kj1 a0 (([65,90,192,214,216,222,913,929,931,939,1040,1071] : List Int))).bind fun t155 => (if t155 = true then (some (Go.Utf8.encode (wrap32 (a0 + 32)))) else ((incipitref03_among.f kj1 a0 (([1024,1039] : List Int))).bind fun t159 => (if t159 = true then (some (Go.Utf8.encode (wrap32 (a0 + 80)))) else (if a0 = 962 then (some (⟨#[207,131]⟩ : ByteArray)) else (some (Go.Utf8.encode a0))))))) = some r := by rw [if_neg (show ¬ (false = true) by decide)] at H;exact H
        clear H
        have H := H1
        clear H1
        obtain ⟨y152,hy152⟩ : ∃ y_ : List Int,y_ = (([65,90,192,214,216,222,913,929,931,939,1040,1071] : List Int)) := ⟨_,rfl⟩
        replace H : ((incipitref03_among.f kj1 a0 y152).bind fun t155 => (if t155 = true then (some (Go.Utf8.encode (wrap32 (a0 + 32)))) else ((incipitref03_among.f kj1 a0 (([1024,1039] : List Int))).bind fun t159 => (if t159 = true then (some (Go.Utf8.encode (wrap32 (a0 + 80)))) else (if a0 = 962 then (some (⟨#[207,131]⟩ : ByteArray)) else (some (Go.Utf8.encode a0))))))) = some r := by first | (rw [hy152];with_reducible exact H) | (have H2_ := (Option.bind_some _ _).symm.trans H;rw [hy152];with_reducible exact H2_) | (have H2_ := (Option.bind_some _ _).symm.trans H;with_reducible exact H2_) | with_reducible exact H | (rw [hy152];exact H) | exact H
        have Ny152 := Aside0.mk hy152
        clear hy152
        replace H := Option.bind_eq_some_iff.mp H
        obtain ⟨t155,A50,H⟩ := H
        replace H : (if t155 = true then (some (Go.Utf8.encode (wrap32 (a0 + 32)))) else ((incipitref03_among.f kj1 a0 (([1024,1039] : List Int))).bind fun t159 => (if t159 = true then (some (Go.Utf8.encode (wrap32 (a0 + 80)))) else (if a0 = 962 then (some (⟨#[207,131]⟩ : ByteArray)) else (some (Go.Utf8.encode a0)))))) = some r := H
        have A5 := Aside0.mk A50
        clear A50
        by_cases c6 : t155 = true
        · subst c6
          have H1 : (some (Go.Utf8.encode (wrap32 (a0 + 32)))) = some r := by rw [if_pos rfl] at H;exact H
          clear H
          have H := H1
          clear H1
          obtain rfl := Option.some.inj H
          go_wp2_with (first | ((with_reducible refine gate_dst (N := 10) rfl ?_);refine Kd.R_lit (Kd.int .i32) _ 21 ?hg (N := 10) ?hd (xs := ([65,90,192,214,216,222,913,929,931,939,1040,1071] : List Int)) (inner := [.int .i32 65,.int .i32 90,.int .i32 192,.int .i32 214,.int .i32 216,.int .i32 222,.int .i32 913,.int .i32 929,.int .i32 931,.int .i32 939,.int .i32 1040,.int .i32 1071]) (ok := fun _ => True) (okp := fun _ => True) ?hr ?hp (fun _ hk => hk) trivial (Below.refl _ _) (Nat.le_refl _) (by simp) ?_;(case hd => rfl);(case hg => rfl);(case hr => first | (go_simp;done) | (go_simp;rfl));(case hp => exact (Reps.one (show Kd.M (Kd.int .i32) _ _ _ 65 [.int .i32 65] from rfl) (Reps.one (show Kd.M (Kd.int .i32) _ _ _ 90 [.int .i32 90] from rfl) (Reps.one (show Kd.M (Kd.int .i32) _ _ _ 192 [.int .i32 192] from rfl) (Reps.one (show Kd.M (Kd.int .i32) _ _ _ 214 [.int .i32 214] from rfl) (Reps.one (show Kd.M (Kd.int .i32) _ _ _ 216 [.int .i32 216] from rfl) (Reps.one (show Kd.M (Kd.int .i32) _ _ _ 222 [.int .i32 222] from rfl) (Reps.one (show Kd.M (Kd.int .i32) _ _ _ 913 [.int .i32 913] from rfl) (Reps.one (show Kd.M (Kd.int .i32) _ _ _ 929 [.int .i32 929] from rfl) (Reps.one (show Kd.M (Kd.int .i32) _ _ _ 931 [.int .i32 931] from rfl) (Reps.one (show Kd.M (Kd.int .i32) _ _ _ 939 [.int .i32 939] from rfl) (Reps.one (show Kd.M (Kd.int .i32) _ _ _ 1040 [.int .i32 1040] from rfl) (Reps.one (show Kd.M (Kd.int .i32) _ _ _ 1071 [.int .i32 1071] from rfl) (Reps.none _ _))))))))))))));intro v153 w7 ho8 hb hg_ hnew_;clear hg_ hnew_;(first | rw [← Ny152.out] at ho8 | (simp only [Int.reduceToNat] at ho8;rw [← Ny152.out] at ho8));have n0_ := Aside0.mk (Kd.R_lower ho8 (below_size (by repeat (first | (with_reducible first | exact HB.out | apply below_alloc | apply pw_below_drewN | apply below_drew1) | exact HB.out))));have n1_ := Aside0.mk (below_step (by repeat (first | (with_reducible first | exact HB.out | apply below_alloc | apply pw_below_drewN | apply below_drew1) | exact HB.out)) hb);clear HB;have HO154 := n0_;have HB := n1_;clear n0_ n1_;clear hb ho8;obtain ⟨Ao9,co9,eo9⟩ := Kd.R_slice HO154.out;subst eo9) | ((with_reducible refine gate_callee (f := 95) rfl ?_);refine goesL_ (some 11) rfl rfl Tryz.func95 (by kernel_rfl) rfl #[.int .i32 a0,.slice Ao9 y152.length co9] rfl (by (try simp only [List.map_toArray,List.map_cons,List.map_nil]);first | done | rfl | (simp only [List.length_drop,List.length_take];rfl)) ?_;(with_reducible refine (incipitref03_among.calls kj1 a0 _ _ y152 true _ ?side1 ?side2 A5.out).mono ?_);(case side1 => repeat (first | exact (Kd.R_reads' HO154.out).2.2 | (with_reducible refine Kd.C_alloc ?_ _) | (with_reducible refine Kd.C_drewN ?_ _) | (with_reducible refine Kd.C_drew ?_)));(case side2 => exact (Kd.R_reads' HO154.out).2.1);rintro e w' ⟨rfl,⟨nd,rfl⟩⟩;refine ⟨_,rfl,?_⟩))
          go_ret
          exact ⟨by first | rfl | (simp [errW_none,errW_some] <;> rfl) | (simp [*,errW_none,errW_some] <;> rfl),by repeat (first | (with_reducible first | exact HB.out | apply below_alloc | apply pw_below_drewN | apply below_drew1) | exact HB.out)⟩
        · replace c6 := Bool.eq_false_iff.mpr c6
          subst c6
          have H1 : ((incipitref03_among.f kj1 a0 (([1024,1039] : List Int))).bind fun t159 => (if t159 = true then (some (Go.Utf8.encode (wrap32 (a0 + 80)))) else (if a0 = 962 then (some (⟨#[207,131]⟩ : ByteArray)) else (some (Go.Utf8.encode a0))))) = some r := by rw [if_neg (show ¬ (false = true) by decide)] at H;exact H
          clear H
          have H := H1
          clear H1
          obtain ⟨y156,hy156⟩ : ∃ y_ : List Int,y_ = (([1024,1039] : List Int)) := ⟨_,rfl⟩
          replace H : ((incipitref03_among.f kj1 a0 y156).bind fun t159 => (if t159 = true then (some (Go.Utf8.encode (wrap32 (a0 + 80)))) else (if a0 = 962 then (some (⟨#[207,131]⟩ : ByteArray)) else (some (Go.Utf8.encode a0))))) = some r := by first | (rw [hy156];with_reducible exact H) | (have H2_ := (Option.bind_some _ _).symm.trans H;rw [hy156];with_reducible exact H2_) | (have H2_ := (Option.bind_some _ _).symm.trans H;with_reducible exact H2_) | with_reducible exact H | (rw [hy156];exact H) | exact H
          have Ny156 := Aside0.mk hy156
          clear hy156
          replace H := Option.bind_eq_some_iff.mp H
          obtain ⟨t159,A100,H⟩ := H
          replace H : (if t159 = true then (some (Go.Utf8.encode (wrap32 (a0 + 80)))) else (if a0 = 962 then (some (⟨#[207,131]⟩ : ByteArray)) else (some (Go.Utf8.encode a0)))) = some r := H
          have A10 := Aside0.mk A100
          clear A100
          by_cases c11 : t159 = true
          · subst c11
            have H1 : (some (Go.Utf8.encode (wrap32 (a0 + 80)))) = some r := by rw [if_pos rfl] at H;exact H
            clear H
            have H := H1
            clear H1
            obtain rfl := Option.some.inj H
            go_wp2_with (first | ((with_reducible refine gate_dst (N := 10) rfl ?_);refine Kd.R_lit (Kd.int .i32) _ 21 ?hg (N := 10) ?hd (xs := ([65,90,192,214,216,222,913,929,931,939,1040,1071] : List Int)) (inner := [.int .i32 65,.int .i32 90,.int .i32 192,.int .i32 214,.int .i32 216,.int .i32 222,.int .i32 913,.int .i32 929,.int .i32 931,.int .i32 939,.int .i32 1040,.int .i32 1071]) (ok := fun _ => True) (okp := fun _ => True) ?hr ?hp (fun _ hk => hk) trivial (Below.refl _ _) (Nat.le_refl _) (by simp) ?_;(case hd => rfl);(case hg => rfl);(case hr => first | (go_simp;done) | (go_simp;rfl));(case hp => exact (Reps.one (show Kd.M (Kd.int .i32) _ _ _ 65 [.int .i32 65] from rfl) (Reps.one (show Kd.M (Kd.int .i32) _ _ _ 90 [.int .i32 90] from rfl) (Reps.one (show Kd.M (Kd.int .i32) _ _ _ 192 [.int .i32 192] from rfl) (Reps.one (show Kd.M (Kd.int .i32) _ _ _ 214 [.int .i32 214] from rfl) (Reps.one (show Kd.M (Kd.int .i32) _ _ _ 216 [.int .i32 216] from rfl) (Reps.one (show Kd.M (Kd.int .i32) _ _ _ 222 [.int .i32 222] from rfl) (Reps.one (show Kd.M (Kd.int .i32) _ _ _ 913 [.int .i32 913] from rfl) (Reps.one (show Kd.M (Kd.int .i32) _ _ _ 929 [.int .i32 929] from rfl) (Reps.one (show Kd.M (Kd.int .i32) _ _ _ 931 [.int .i32 931] from rfl) (Reps.one (show Kd.M (Kd.int .i32) _ _ _ 939 [.int .i32 939] from rfl) (Reps.one (show Kd.M (Kd.int .i32) _ _ _ 1040 [.int .i32 1040] from rfl) (Reps.one (show Kd.M (Kd.int .i32) _ _ _ 1071 [.int .i32 1071] from rfl) (Reps.none _ _))))))))))))));intro v153 w12 ho13 hb hg_ hnew_;clear hg_ hnew_;(first | rw [← Ny152.out] at ho13 | (simp only [Int.reduceToNat] at ho13;rw [← Ny152.out] at ho13));have n0_ := Aside0.mk (Kd.R_lower ho13 (below_size (by repeat (first | (with_reducible first | exact HB.out | apply below_alloc | apply pw_below_drewN | apply below_drew1) | exact HB.out))));have n1_ := Aside0.mk (below_step (by repeat (first | (with_reducible first | exact HB.out | apply below_alloc | apply pw_below_drewN | apply below_drew1) | exact HB.out)) hb);clear HB;have HO154 := n0_;have HB := n1_;clear n0_ n1_;clear hb ho13;obtain ⟨Ao14,co14,eo14⟩ := Kd.R_slice HO154.out;subst eo14) | ((with_reducible refine gate_callee (f := 95) rfl ?_);refine goesL_ (some 11) rfl rfl Tryz.func95 (by kernel_rfl) rfl #[.int .i32 a0,.slice Ao14 y152.length co14] rfl (by (try simp only [List.map_toArray,List.map_cons,List.map_nil]);first | done | rfl | (simp only [List.length_drop,List.length_take];rfl)) ?_;(with_reducible refine (incipitref03_among.calls kj1 a0 _ _ y152 false _ ?side1 ?side2 A5.out).mono ?_);(case side1 => repeat (first | exact (Kd.R_reads' HO154.out).2.2 | (with_reducible refine Kd.C_alloc ?_ _) | (with_reducible refine Kd.C_drewN ?_ _) | (with_reducible refine Kd.C_drew ?_)));(case side2 => exact (Kd.R_reads' HO154.out).2.1);rintro e w' ⟨rfl,⟨nd,rfl⟩⟩;refine ⟨_,rfl,?_⟩) | ((with_reducible refine gate_dst (N := 16) rfl ?_);refine Kd.R_lit (Kd.int .i32) _ 21 ?hg (N := 16) ?hd (xs := ([1024,1039] : List Int)) (inner := [.int .i32 1024,.int .i32 1039]) (ok := fun _ => True) (okp := fun _ => True) ?hr ?hp (fun _ hk => hk) trivial (Below.refl _ _) (Nat.le_refl _) (by simp) ?_;(case hd => rfl);(case hg => rfl);(case hr => first | (go_simp;done) | (go_simp;rfl));(case hp => exact (Reps.one (show Kd.M (Kd.int .i32) _ _ _ 1024 [.int .i32 1024] from rfl) (Reps.one (show Kd.M (Kd.int .i32) _ _ _ 1039 [.int .i32 1039] from rfl) (Reps.none _ _))));intro v157 w15 ho16 hb hg_ hnew_;clear hg_ hnew_;(first | rw [← Ny156.out] at ho16 | (simp only [Int.reduceToNat] at ho16;rw [← Ny156.out] at ho16));have n0_ := Aside0.mk (Kd.R_elder' (by (with_reducible repeat (first | apply Kd.R_alloc | apply Kd.R_drewN | apply Kd.R_drew));exact HO154.out) (Kd.R_base ho16) hb);have n1_ := Aside0.mk (Kd.R_lower (Kd.R_new' ho16 (Kd.R_lt (by (with_reducible repeat (first | apply Kd.R_alloc | apply Kd.R_drewN | apply Kd.R_drew));exact HO154.out))) (below_size (by repeat (first | (with_reducible first | exact HB.out | apply below_alloc | apply pw_below_drewN | apply below_drew1) | exact HB.out))));have n2_ := Aside0.mk (below_step (by repeat (first | (with_reducible first | exact HB.out | apply below_alloc | apply pw_below_drewN | apply below_drew1) | exact HB.out)) hb);clear HO154;clear HB;have HO154 := n0_;have HO158 := n1_;have HB := n2_;clear n0_ n1_ n2_;clear hb ho16;obtain ⟨Ao17,co17,eo17⟩ := Kd.R_slice HO158.out;subst eo17) | ((with_reducible refine gate_callee (f := 95) rfl ?_);refine goesL_ (some 17) rfl rfl Tryz.func95 (by kernel_rfl) rfl #[.int .i32 a0,.slice Ao17 y156.length co17] rfl (by (try simp only [List.map_toArray,List.map_cons,List.map_nil]);first | done | rfl | (simp only [List.length_drop,List.length_take];rfl)) ?_;(with_reducible refine (incipitref03_among.calls kj1 a0 _ _ y156 true _ ?side1 ?side2 A10.out).mono ?_);(case side1 => repeat (first | exact (Kd.R_reads' HO158.out).2.2 | (with_reducible refine Kd.C_alloc ?_ _) | (with_reducible refine Kd.C_drewN ?_ _) | (with_reducible refine Kd.C_drew ?_)));(case side2 => exact (Kd.R_reads' HO158.out).2.1);rintro e w' ⟨rfl,⟨nd,rfl⟩⟩;refine ⟨_,rfl,?_⟩))
            go_ret
            exact ⟨by first | rfl | (simp [errW_none,errW_some] <;> rfl) | (simp [*,errW_none,errW_some] <;> rfl),by repeat (first | (with_reducible first | exact HB.out | apply below_alloc | apply pw_below_drewN | apply below_drew1) | exact HB.out)⟩
          · replace c11 := Bool.eq_false_iff.mpr c11
            subst c11
            have H1 : (if a0 = 962 then (some (⟨#[207,131]⟩ : ByteArray)) else (some (Go.Utf8.encode a0))) = some r := by rw [if_neg (show ¬ (false = true) by decide)] at H;exact H
            clear H
            have H := H1
            clear H1
            by_cases c18 : a0 = 962
            · rw [if_pos c18] at H
              have c18b0 : (a0 == 962) = true := beq_iff_eq.mpr c18
              have c18b1 : (a0 != 962) = false := bne_eq_false_iff_eq.mpr c18
              clear c18
              obtain rfl := Option.some.inj H
              go_wp2_with (first | ((with_reducible refine gate_dst (N := 10) rfl ?_);refine Kd.R_lit (Kd.int .i32) _ 21 ?hg (N := 10) ?hd (xs := ([65,90,192,214,216,222,913,929,931,939,1040,1071] : List Int)) (inner := [.int .i32 65,.int .i32 90,.int .i32 192,.int .i32 214,.int .i32 216,.int .i32 222,.int .i32 913,.int .i32 929,.int .i32 931,.int .i32 939,.int .i32 1040,.int .i32 1071]) (ok := fun _ => True) (okp := fun _ => True) ?hr ?hp (fun _ hk => hk) trivial (Below.refl _ _) (Nat.le_refl _) (by simp) ?_;(case hd => rfl);(case hg => rfl);(case hr => first | (go_simp;done) | (go_simp;rfl));(case hp => exact (Reps.one (show Kd.M (Kd.int .i32) _ _ _ 65 [.int .i32 65] from rfl) (Reps.one (show Kd.M (Kd.int .i32) _ _ _ 90 [.int .i32 90] from rfl) (Reps.one (show Kd.M (Kd.int .i32) _ _ _ 192 [.int .i32 192] from rfl) (Reps.one (show Kd.M (Kd.int .i32) _ _ _ 214 [.int .i32 214] from rfl) (Reps.one (show Kd.M (Kd.int .i32) _ _ _ 216 [.int .i32 216] from rfl) (Reps.one (show Kd.M (Kd.int .i32) _ _ _ 222 [.int .i32 222] from rfl) (Reps.one (show Kd.M (Kd.int .i32) _ _ _ 913 [.int .i32 913] from rfl) (Reps.one (show Kd.M (Kd.int .i32) _ _ _ 929 [.int .i32 929] from rfl) (Reps.one (show Kd.M (Kd.int .i32) _ _ _ 931 [.int .i32 931] from rfl) (Reps.one (show Kd.M (Kd.int .i32) _ _ _ 939 [.int .i32 939] from rfl) (Reps.one (show Kd.M (Kd.int .i32) _ _ _ 1040 [.int .i32 1040] from rfl) (Reps.one (show Kd.M (Kd.int .i32) _ _ _ 1071 [.int .i32 1071] from rfl) (Reps.none _ _))))))))))))));intro v153 w19 ho20 hb hg_ hnew_;clear hg_ hnew_;(first | rw [← Ny152.out] at ho20 | (simp only [Int.reduceToNat] at ho20;rw [← Ny152.out] at ho20));have n0_ := Aside0.mk (Kd.R_lower ho20 (below_size (by repeat (first | (with_reducible first | exact HB.out | apply below_alloc | apply pw_below_drewN | apply below_drew1) | exact HB.out))));have n1_ := Aside0.mk (below_step (by repeat (first | (with_reducible first | exact HB.out | apply below_alloc | apply pw_below_drewN | apply below_drew1) | exact HB.out)) hb);clear HB;have HO154 := n0_;have HB := n1_;clear n0_ n1_;clear hb ho20;obtain ⟨Ao21,co21,eo21⟩ := Kd.R_slice HO154.out;subst eo21) | ((with_reducible refine gate_callee (f := 95) rfl ?_);refine goesL_ (some 11) rfl rfl Tryz.func95 (by kernel_rfl) rfl #[.int .i32 a0,.slice Ao21 y152.length co21] rfl (by (try simp only [List.map_toArray,List.map_cons,List.map_nil]);first | done | rfl | (simp only [List.length_drop,List.length_take];rfl)) ?_;(with_reducible refine (incipitref03_among.calls kj1 a0 _ _ y152 false _ ?side1 ?side2 A5.out).mono ?_);(case side1 => repeat (first | exact (Kd.R_reads' HO154.out).2.2 | (with_reducible refine Kd.C_alloc ?_ _) | (with_reducible refine Kd.C_drewN ?_ _) | (with_reducible refine Kd.C_drew ?_)));(case side2 => exact (Kd.R_reads' HO154.out).2.1);rintro e w' ⟨rfl,⟨nd,rfl⟩⟩;refine ⟨_,rfl,?_⟩) | ((with_reducible refine gate_dst (N := 16) rfl ?_);refine Kd.R_lit (Kd.int .i32) _ 21 ?hg (N := 16) ?hd (xs := ([1024,1039] : List Int)) (inner := [.int .i32 1024,.int .i32 1039]) (ok := fun _ => True) (okp := fun _ => True) ?hr ?hp (fun _ hk => hk) trivial (Below.refl _ _) (Nat.le_refl _) (by simp) ?_;(case hd => rfl);(case hg => rfl);(case hr => first | (go_simp;done) | (go_simp;rfl));(case hp => exact (Reps.one (show Kd.M (Kd.int .i32) _ _ _ 1024 [.int .i32 1024] from rfl) (Reps.one (show Kd.M (Kd.int .i32) _ _ _ 1039 [.int .i32 1039] from rfl) (Reps.none _ _))));intro v157 w22 ho23 hb hg_ hnew_;clear hg_ hnew_;(first | rw [← Ny156.out] at ho23 | (simp only [Int.reduceToNat] at ho23;rw [← Ny156.out] at ho23));have n0_ := Aside0.mk (Kd.R_elder' (by (with_reducible repeat (first | apply Kd.R_alloc | apply Kd.R_drewN | apply Kd.R_drew));exact HO154.out) (Kd.R_base ho23) hb);have n1_ := Aside0.mk (Kd.R_lower (Kd.R_new' ho23 (Kd.R_lt (by (with_reducible repeat (first | apply Kd.R_alloc | apply Kd.R_drewN | apply Kd.R_drew));exact HO154.out))) (below_size (by repeat (first | (with_reducible first | exact HB.out | apply below_alloc | apply pw_below_drewN | apply below_drew1) | exact HB.out))));have n2_ := Aside0.mk (below_step (by repeat (first | (with_reducible first | exact HB.out | apply below_alloc | apply pw_below_drewN | apply below_drew1) | exact HB.out)) hb);clear HO154;clear HB;have HO154 := n0_;have HO158 := n1_;have HB := n2_;clear n0_ n1_ n2_;clear hb ho23;obtain ⟨Ao24,co24,eo24⟩ := Kd.R_slice HO158.out;subst eo24) | ((with_reducible refine gate_callee (f := 95) rfl ?_);refine goesL_ (some 17) rfl rfl Tryz.func95 (by kernel_rfl) rfl #[.int .i32 a0,.slice Ao24 y156.length co24] rfl (by (try simp only [List.map_toArray,List.map_cons,List.map_nil]);first | done | rfl | (simp only [List.length_drop,List.length_take];rfl)) ?_;(with_reducible refine (incipitref03_among.calls kj1 a0 _ _ y156 false _ ?side1 ?side2 A10.out).mono ?_);(case side1 => repeat (first | exact (Kd.R_reads' HO158.out).2.2 | (with_reducible refine Kd.C_alloc ?_ _) | (with_reducible refine Kd.C_drewN ?_ _) | (with_reducible refine Kd.C_drew ?_)));(case side2 => exact (Kd.R_reads' HO158.out).2.1);rintro e w' ⟨rfl,⟨nd,rfl⟩⟩;refine ⟨_,rfl,?_⟩))
              go_ret
              exact ⟨by first | rfl | (simp [errW_none,errW_some] <;> rfl) | (simp [*,errW_none,errW_some] <;> rfl),by repeat (first | (with_reducible first | exact HB.out | apply below_alloc | apply pw_below_drewN | apply below_drew1) | exact HB.out)⟩
            · rw [if_neg c18] at H
              have c18b0 : (a0 == 962) = false := beq_eq_false_iff_ne.mpr c18
              have c18b1 : (a0 != 962) = true := bne_iff_ne.mpr c18
              obtain rfl := Option.some.inj H
              go_wp2_with (first | ((with_reducible refine gate_dst (N := 10) rfl ?_);refine Kd.R_lit (Kd.int .i32) _ 21 ?hg (N := 10) ?hd (xs := ([65,90,192,214,216,222,913,929,931,939,1040,1071] : List Int)) (inner := [.int .i32 65,.int .i32 90,.int .i32 192,.int .i32 214,.int .i32 216,.int .i32 222,.int .i32 913,.int .i32 929,.int .i32 931,.int .i32 939,.int .i32 1040,.int .i32 1071]) (ok := fun _ => True) (okp := fun _ => True) ?hr ?hp (fun _ hk => hk) trivial (Below.refl _ _) (Nat.le_refl _) (by simp) ?_;(case hd => rfl);(case hg => rfl);(case hr => first | (go_simp;done) | (go_simp;rfl));(case hp => exact (Reps.one (show Kd.M (Kd.int .i32) _ _ _ 65 [.int .i32 65] from rfl) (Reps.one (show Kd.M (Kd.int .i32) _ _ _ 90 [.int .i32 90] from rfl) (Reps.one (show Kd.M (Kd.int .i32) _ _ _ 192 [.int .i32 192] from rfl) (Reps.one (show Kd.M (Kd.int .i32) _ _ _ 214 [.int .i32 214] from rfl) (Reps.one (show Kd.M (Kd.int .i32) _ _ _ 216 [.int .i32 216] from rfl) (Reps.one (show Kd.M (Kd.int .i32) _ _ _ 222 [.int .i32 222] from rfl) (Reps.one (show Kd.M (Kd.int .i32) _ _ _ 913 [.int .i32 913] from rfl) (Reps.one (show Kd.M (Kd.int .i32) _ _ _ 929 [.int .i32 929] from rfl) (Reps.one (show Kd.M (Kd.int .i32) _ _ _ 931 [.int .i32 931] from rfl) (Reps.one (show Kd.M (Kd.int .i32) _ _ _ 939 [.int .i32 939] from rfl) (Reps.one (show Kd.M (Kd.int .i32) _ _ _ 1040 [.int .i32 1040] from rfl) (Reps.one (show Kd.M (Kd.int .i32) _ _ _ 1071 [.int .i32 1071] from rfl) (Reps.none _ _))))))))))))));intro v153 w25 ho26 hb hg_ hnew_;clear hg_ hnew_;(first | rw [← Ny152.out] at ho26 | (simp only [Int.reduceToNat] at ho26;rw [← Ny152.out] at ho26));have n0_ := Aside0.mk (Kd.R_lower ho26 (below_size (by repeat (first | (with_reducible first | exact HB.out | apply below_alloc | apply pw_below_drewN | apply below_drew1) | exact HB.out))));have n1_ := Aside0.mk (below_step (by repeat (first | (with_reducible first | exact HB.out | apply below_alloc | apply pw_below_drewN | apply below_drew1) | exact HB.out)) hb);clear HB;have HO154 := n0_;have HB := n1_;clear n0_ n1_;clear hb ho26;obtain ⟨Ao27,co27,eo27⟩ := Kd.R_slice HO154.out;subst eo27) | ((with_reducible refine gate_callee (f := 95) rfl ?_);refine goesL_ (some 11) rfl rfl Tryz.func95 (by kernel_rfl) rfl #[.int .i32 a0,.slice Ao27 y152.length co27] rfl (by (try simp only [List.map_toArray,List.map_cons,List.map_nil]);first | done | rfl | (simp only [List.length_drop,List.length_take];rfl)) ?_;(with_reducible refine (incipitref03_among.calls kj1 a0 _ _ y152 false _ ?side1 ?side2 A5.out).mono ?_);(case side1 => repeat (first | exact (Kd.R_reads' HO154.out).2.2 | (with_reducible refine Kd.C_alloc ?_ _) | (with_reducible refine Kd.C_drewN ?_ _) | (with_reducible refine Kd.C_drew ?_)));(case side2 => exact (Kd.R_reads' HO154.out).2.1);rintro e w' ⟨rfl,⟨nd,rfl⟩⟩;refine ⟨_,rfl,?_⟩) | ((with_reducible refine gate_dst (N := 16) rfl ?_);refine Kd.R_lit (Kd.int .i32) _ 21 ?hg (N := 16) ?hd (xs := ([1024,1039] : List Int)) (inner := [.int .i32 1024,.int .i32 1039]) (ok := fun _ => True) (okp := fun _ => True) ?hr ?hp (fun _ hk => hk) trivial (Below.refl _ _) (Nat.le_refl _) (by simp) ?_;(case hd => rfl);(case hg => rfl);(case hr => first | (go_simp;done) | (go_simp;rfl));(case hp => exact (Reps.one (show Kd.M (Kd.int .i32) _ _ _ 1024 [.int .i32 1024] from rfl) (Reps.one (show Kd.M (Kd.int .i32) _ _ _ 1039 [.int .i32 1039] from rfl) (Reps.none _ _))));intro v157 w28 ho29 hb hg_ hnew_;clear hg_ hnew_;(first | rw [← Ny156.out] at ho29 | (simp only [Int.reduceToNat] at ho29;rw [← Ny156.out] at ho29));have n0_ := Aside0.mk (Kd.R_elder' (by (with_reducible repeat (first | apply Kd.R_alloc | apply Kd.R_drewN | apply Kd.R_drew));exact HO154.out) (Kd.R_base ho29) hb);have n1_ := Aside0.mk (Kd.R_lower (Kd.R_new' ho29 (Kd.R_lt (by (with_reducible repeat (first | apply Kd.R_alloc | apply Kd.R_drewN | apply Kd.R_drew));exact HO154.out))) (below_size (by repeat (first | (with_reducible first | exact HB.out | apply below_alloc | apply pw_below_drewN | apply below_drew1) | exact HB.out))));have n2_ := Aside0.mk (below_step (by repeat (first | (with_reducible first | exact HB.out | apply below_alloc | apply pw_below_drewN | apply below_drew1) | exact HB.out)) hb);clear HO154;clear HB;have HO154 := n0_;have HO158 := n1_;have HB := n2_;clear n0_ n1_ n2_;clear hb ho29;obtain ⟨Ao30,co30,eo30⟩ := Kd.R_slice HO158.out;subst eo30) | ((with_reducible refine gate_callee (f := 95) rfl ?_);refine goesL_ (some 17) rfl rfl Tryz.func95 (by kernel_rfl) rfl #[.int .i32 a0,.slice Ao30 y156.length co30] rfl (by (try simp only [List.map_toArray,List.map_cons,List.map_nil]);first | done | rfl | (simp only [List.length_drop,List.length_take];rfl)) ?_;(with_reducible refine (incipitref03_among.calls kj1 a0 _ _ y156 false _ ?side1 ?side2 A10.out).mono ?_);(case side1 => repeat (first | exact (Kd.R_reads' HO158.out).2.2 | (with_reducible refine Kd.C_alloc ?_ _) | (with_reducible refine Kd.C_drewN ?_ _) | (with_reducible refine Kd.C_drew ?_)));(case side2 => exact (Kd.R_reads' HO158.out).2.1);rintro e w' ⟨rfl,⟨nd,rfl⟩⟩;refine ⟨_,rfl,?_⟩))
              go_ret
              exact ⟨by first | rfl | (simp [errW_none,errW_some] <;> rfl) | (simp [*,errW_none,errW_some] <;> rfl),by repeat (first | (with_reducible first | exact HB.out | apply below_alloc | apply pw_below_drewN | apply below_drew1) | exact HB.out)⟩

/-! ### incipitref03_Fold: function 43 -/
def incipitref03_Fold.l0 : Nat → ByteArray → List Int → Int → Option (ByteArray)
  | 0,_,_,_ => none
  | k + 1,x3,x4,x5 => if x5 < (x4.length : Int) then (if 0 ≤ x5 then ((incipitref03_fold.f k (rd x4 x5)).bind fun t164 => (if x3.size + t164.size ≤ 9223372036854775807 then (incipitref03_Fold.l0 k (x3 ++ t164) x4 (wrap64 (x5 + 1))) else (none))) else (none)) else (some x3)
def incipitref03_Fold.f (k : Nat) (a0 : ByteArray) : Option (ByteArray) := (incipitref01_Runes.f k a0).bind fun t160 => (incipitref03_Fold.l0 k (⟨#[]⟩ : ByteArray) t160 0)
set_option maxHeartbeats 8000000 in
set_option maxRecDepth 100000 in
theorem incipitref03_Fold.calls (k : Nat) (a0 : ByteArray) (r : ByteArray) (w : World) (h : incipitref03_Fold.f k a0 = some r) :
  Calls Tryz.prog 43 #[.string a0] w fun e w' => e = .returned (.string r) ∧ Below w.heap.size w w' := by
 have HB := Aside0.mk (Below.refl w.heap.size w)
 have H : ((incipitref01_Runes.f k a0).bind fun t160 => (incipitref03_Fold.l0 k (⟨#[]⟩ : ByteArray) t160 0)) = some r := h
 clear h
 replace H := Option.bind_eq_some_iff.mp H
 obtain ⟨t160,A20,H⟩ := H
 (try dsimp only at H)
 have A2 := Aside0.mk A20
 clear A20
 have H' := Aside0.mk H
 clear H
 go_enter Tryz.func43,Tryz.ntmps43
 go_wp2_with (first | ((with_reducible refine gate_callee (f := 69) rfl ?_);refine goesL_ (some 7) rfl rfl Tryz.func69 (by kernel_rfl) rfl #[.string a0] rfl (by (try simp only [List.map_toArray,List.map_cons,List.map_nil]);try rfl) ?_;(with_reducible refine (incipitref01_Runes.calls k a0 t160 _ A2.out).mono ?_);rintro e w3 ⟨v161,rfl,ho0,hb⟩;refine ⟨_,rfl,?_⟩;have n0_ := Aside0.mk (Kd.R_lower ho0 (below_size HB.out));have n1_ := Aside0.mk (below_step HB.out hb);clear HB;have HO162 := n0_;have HB := n1_;clear n0_ n1_;(try clear ho0)))
 go_loopg [3,5] k (fun kq v3 v5 w' => ∃ (x3_1 : ByteArray) (x5_1 : Int),v3 = .string x3_1 ∧ v5 = .int .i64 x5_1 ∧ Aside0 (incipitref03_Fold.l0 kq x3_1 t160 x5_1 = some r) ∧ Aside0 (kq ≤ k) ∧ Aside0 (Kd.R (Kd.int .i32) 21 w' w.heap.size (fun _ => True) v161 t160) ∧ Aside0 (Below w.heap.size w w'))
 case atStart => exact ⟨((⟨#[]⟩ : ByteArray)),(0),(by first | rfl | (simp;done) | (simp [*];done)),(by first | rfl | (simp;done) | (simp [*];done)),H',⟨Nat.le_refl _⟩,⟨by (with_reducible repeat (first | apply Kd.R_alloc | apply Kd.R_drewN | apply Kd.R_drew));exact HO162.out⟩,⟨by repeat (first | (with_reducible first | exact HB.out | apply below_alloc | apply pw_below_drewN | apply below_drew1) | exact HB.out)⟩⟩
 case round =>
  clear H'
  try clear p2
  obtain ⟨x3_1,x5_1,rfl,rfl,HA,HK1,HO_4,HB⟩ := hrel
  cases gk with
  | zero => exact absurd HA.out (by simp [incipitref03_Fold.l0])
  | succ k1 =>
   have H := HA.out
   clear HA
   simp only [incipitref03_Fold.l0] at H
   by_cases c4 : x5_1 < (t160.length : Int)
   ·rw [if_pos c4] at H
    have c4b0 : decide (x5_1 < (t160.length : Int)) = true := decide_eq_true c4
    clear c4
    by_cases c5 : 0 ≤ x5_1
    ·rw [if_pos c5] at H
     have c5b0 : decide (0 ≤ x5_1) = true := decide_eq_true c5
     clear c5
     replace H := Option.bind_eq_some_iff.mp H
     obtain ⟨t164,A60,H⟩ := H
     (try dsimp only at H)
     have A6 := Aside0.mk A60
     clear A60
     by_cases c7 : x3_1.size + t164.size ≤ 9223372036854775807
     ·rw [if_pos c7] at H
      have c7b0 := eq_true c7
      have c7b1 : decide (x3_1.size + t164.size ≤ 9223372036854775807) = true := decide_eq_true c7
      try have c7b2 : (9223372036854775807 < x3_1.size + t164.size) = False := eq_false (Nat.not_lt.2 c7)
      have H' := Aside0.mk H
      clear H
      obtain ⟨Ao8,co8,eo8⟩ := Kd.R_slice HO_4.out
      subst eo8
      have p163 : 0 ≤ (x5_1 : Int) := of_decide_eq_true (by first | (with_reducible assumption) | assumption)
      have q163 : x5_1 < (t160.length : Int) := of_decide_eq_true (by first | (with_reducible assumption) | assumption)
      obtain ⟨ad163,e163,hx163_0⟩ := Kd.at_int (Kd.R_reads' HO_4.out).2.2 x5_1 p163 q163
      cases e163
      replace p163 := eq_true p163
      replace q163 := eq_true q163
      go_wp2_with (first | ((with_reducible refine gate_callee (f := 70) rfl ?_);refine goesL_ (some 19) rfl rfl Tryz.func70 (by kernel_rfl) rfl #[.int .i32 (rd t160 x5_1)] rfl (by (try simp only [List.map_toArray,List.map_cons,List.map_nil]);try rfl) ?_;(with_reducible refine (incipitref03_fold.calls k1 (rd t160 x5_1) t164 _ A6.out).mono ?_);rintro e w9 ⟨rfl,hb⟩;refine ⟨_,rfl,?_⟩;have n0_ := Aside0.mk (Kd.R_below (by (with_reducible repeat (first | apply Kd.R_alloc | apply Kd.R_drewN | apply Kd.R_drew));exact HO_4.out) hb);have n1_ := Aside0.mk (below_step HB.out hb);clear HO_4;clear HB;have HO_4 := n0_;have HB := n1_;clear n0_ n1_))
      go_roundg k1
      case measure => have := HK1.out;omega
      case rel => exact ⟨(x3_1 ++ t164),(wrap64 (x5_1 + 1)),(by first | rfl | (simp;done) | (simp [*];done)),(by first | rfl | (simp;done) | (simp [*];done)),H',⟨by have := HK1.out;omega⟩,⟨by (with_reducible repeat (first | apply Kd.R_alloc | apply Kd.R_drewN | apply Kd.R_drew));exact HO_4.out⟩,⟨by repeat (first | (with_reducible first | exact HB.out | apply below_alloc | apply pw_below_drewN | apply below_drew1) | exact HB.out)⟩⟩
     ·rw [if_neg c7] at H
      exact absurd H (by simp)
    ·rw [if_neg c5] at H
     exact absurd H (by simp)
   ·rw [if_neg c4] at H
    have c4b0 : decide (x5_1 < (t160.length : Int)) = false := decide_eq_false c4
    clear c4
    obtain rfl := Option.some.inj H
    obtain ⟨Ao10,co10,eo10⟩ := Kd.R_slice HO_4.out
    subst eo10
    go_wp2
    go_ret
    exact ⟨by first | rfl | (simp [errW_none,errW_some] <;> rfl) | (simp [*,errW_none,errW_some] <;> rfl),by repeat (first | (with_reducible first | exact HB.out | apply below_alloc | apply pw_below_drewN | apply below_drew1) | exact HB.out)⟩

/-! ### incipitref03_Label: function 22 -/
mutual
def incipitref03_Label.l0 : Nat → ByteArray → List Int → Bool → Int → Option (ByteArray)
 | 0,_,_,_,_ => none
 | k + 1,x0,x3,x4,x5 => if x5 < (x0.size : Int) then (if 0 ≤ x5 then (if (bt x0 x5) = 32 then (incipitref03_Label.j1 k x0 x3 x4 x5 true) else (if (bt x0 x5) ≥ 9 then (incipitref03_Label.j1 k x0 x3 x4 x5 (decide ((bt x0 x5) ≤ 13))) else (incipitref03_Label.j1 k x0 x3 x4 x5 false))) else (none)) else ((incipitref03_Fold.f k (strOfNums x3)).bind fun t165 => (some t165))
def incipitref03_Label.j1 : Nat → ByteArray → List Int → Bool → Int → Bool → Option (ByteArray)
 | 0,_,_,_,_,_ => none
 | k + 1,x0,x3,x4,x5,x27 => if x27 = true then (incipitref03_Label.l0 k x0 x3 (decide ((x3.length : Int) > 0)) (wrap64 (x5 + 1))) else (if x4 = true then (if x3.length < 140737488355328 then ((some (x3 ++ [32] : List Int)).bind fun y166 => (if 0 ≤ x5 then (if x5 < (x0.size : Int) then (if y166.length < 140737488355328 then (incipitref03_Label.l0 k x0 (y166 ++ [bt x0 x5]) false (wrap64 (x5 + 1))) else (none)) else (none)) else (none))) else (none)) else (if 0 ≤ x5 then (if x5 < (x0.size : Int) then (if x3.length < 140737488355328 then (incipitref03_Label.l0 k x0 (x3 ++ [bt x0 x5]) false (wrap64 (x5 + 1))) else (none)) else (none)) else (none)))
end
def incipitref03_Label.f (k : Nat) (a0 : ByteArray) : Option (ByteArray) := incipitref03_Label.l0 k a0 ([] : List Int) false 0
set_option maxHeartbeats 8000000 in
set_option maxRecDepth 100000 in
theorem incipitref03_Label.calls (k : Nat) (a0 : ByteArray) (r : ByteArray) (w : World) (h : incipitref03_Label.f k a0 = some r) :
  Calls Tryz.prog 22 #[.string a0] w fun e w' => e = .returned (.string r) ∧ Below w.heap.size w w' := by
 have HB := Aside0.mk (Below.refl w.heap.size w)
 have H : (incipitref03_Label.l0 k a0 ([] : List Int) false 0) = some r := h
 clear h
 have H' := Aside0.mk H
 clear H
 go_enter Tryz.func22,Tryz.ntmps22
 go_wp2
 go_loopg [3,4,5] k (fun kq v3 v4 v5 w' => ∃ (x3_1 : List Int) (x4_1 : Bool) (x5_1 : Int),v4 = .bool x4_1 ∧ v5 = .int .i64 x5_1 ∧ Aside0 (incipitref03_Label.l0 kq a0 x3_1 x4_1 x5_1 = some r) ∧ Aside0 (kq ≤ k) ∧ Aside0 (Kd.R (Kd.int .u8) 5 w' w.heap.size (fun _ => True) v3 x3_1) ∧ Aside0 (Below w.heap.size w w'))
 case atStart => exact ⟨(([] : List Int)),(false),(0),(by first | rfl | (simp;done) | (simp [*];done)),(by first | rfl | (simp;done) | (simp [*];done)),H',⟨Nat.le_refl _⟩,⟨by first | exact Kd.R_nil _ _ _ _ _ | exact Kd.N_nil _ _ _ _ _ | exact Kd.V_nil _ _ _ _ _ | exact Kd.Q_nil _ _ _ _ _ | exact Kd.S_nil _ _ _ _ _⟩,⟨by repeat (first | (with_reducible first | exact HB.out | apply below_alloc | apply pw_below_drewN | apply below_drew1) | exact HB.out)⟩⟩
 case round =>
  clear H'
  obtain ⟨x3_1,x4_1,x5_1,rfl,rfl,HA,HK1,HO_3,HB⟩ := hrel
  cases gk with
  | zero => exact absurd HA.out (by simp [incipitref03_Label.l0])
  | succ k1 =>
   have H := HA.out
   clear HA
   simp only [incipitref03_Label.l0] at H
   by_cases c2 : x5_1 < (a0.size : Int)
   ·rw [if_pos c2] at H
    have c2b0 : decide (x5_1 < (a0.size : Int)) = true := decide_eq_true c2
    clear c2
    have HC3 := Aside0.mk H
    clear H
    go_upto_region 6 with (fail)
    go_cut [27] (fun v27 wc => ∃ (kq : Nat) (x27_2 : Bool),v27 = .bool x27_2 ∧ Aside0 (incipitref03_Label.j1 kq a0 x3_1 x4_1 x5_1 x27_2 = some r) ∧ Aside0 (kq ≤ k1) ∧ Aside0 (Kd.R (Kd.int .u8) 5 wc w.heap.size (fun _ => True) u3 x3_1) ∧ Aside0 (Below w.heap.size w wc))
    case first =>
     have H := HC3.out
     clear HC3
     by_cases c4 : 0 ≤ x5_1
     ·rw [if_pos c4] at H
      have c4b0 : decide (0 ≤ x5_1) = true := decide_eq_true c4
      clear c4
      (first | rw [c4b0] | (simp only [i64_w,i32_w];rw [c4b0]) | skip)
      by_cases c6 : (bt a0 x5_1) = 32
      ·rw [if_pos c6] at H
       have c6b0 : ((bt a0 x5_1) == 32) = true := beq_iff_eq.mpr c6
       have c6b1 : ((bt a0 x5_1) != 32) = false := bne_eq_false_iff_eq.mpr c6
       clear c6
       have H' := Aside0.mk H
       clear H
       have p5 : 0 ≤ (x5_1 : Int) := of_decide_eq_true (by first | (with_reducible assumption) | assumption)
       have q5 : x5_1 < (a0.size : Int) := of_decide_eq_true (by first | (with_reducible assumption) | assumption)
       have hx5 := bt_at a0 x5_1
       replace p5 := eq_true p5
       replace q5 := eq_true q5
       go_wp2
       go_meet
       case rel => exact ⟨_,(true),(by first | rfl | (simp;done) | (simp [*];done)),H',⟨by have := HK1.out;first | omega | exact Nat.le_refl _⟩,⟨by (with_reducible repeat (first | apply Kd.R_alloc | apply Kd.R_drewN | apply Kd.R_drew));exact HO_3.out⟩,⟨by repeat (first | (with_reducible first | exact HB.out | apply below_alloc | apply pw_below_drewN | apply below_drew1) | exact HB.out)⟩⟩
      ·rw [if_neg c6] at H
       have c6b0 : ((bt a0 x5_1) == 32) = false := beq_eq_false_iff_ne.mpr c6
       have c6b1 : ((bt a0 x5_1) != 32) = true := bne_iff_ne.mpr c6
       by_cases c8 : (bt a0 x5_1) ≥ 9
       ·rw [if_pos c8] at H
        have c8b0 : decide (9 ≤ (bt a0 x5_1)) = true := decide_eq_true c8
        clear c8
        have H' := Aside0.mk H
        clear H
        have p5 : 0 ≤ (x5_1 : Int) := of_decide_eq_true (by first | (with_reducible assumption) | assumption)
        have q5 : x5_1 < (a0.size : Int) := of_decide_eq_true (by first | (with_reducible assumption) | assumption)
        have hx5 := bt_at a0 x5_1
        replace p5 := eq_true p5
        replace q5 := eq_true q5
        have p7 : 0 ≤ (x5_1 : Int) := of_decide_eq_true (by first | (with_reducible assumption) | assumption)
        have q7 : x5_1 < (a0.size : Int) := of_decide_eq_true (by first | (with_reducible assumption) | assumption)
        have hx7 := bt_at a0 x5_1
        replace p7 := eq_true p7
        replace q7 := eq_true q7
        have p9 : 0 ≤ (x5_1 : Int) := of_decide_eq_true (by first | (with_reducible assumption) | assumption)
        have q9 : x5_1 < (a0.size : Int) := of_decide_eq_true (by first | (with_reducible assumption) | assumption)
        have hx9 := bt_at a0 x5_1
        replace p9 := eq_true p9
        replace q9 := eq_true q9
        go_wp2
        go_meet
        case rel => exact ⟨_,(decide ((bt a0 x5_1) ≤ 13)),(by first | rfl | (simp;done) | (simp [*];done)),H',⟨by have := HK1.out;first | omega | exact Nat.le_refl _⟩,⟨by (with_reducible repeat (first | apply Kd.R_alloc | apply Kd.R_drewN | apply Kd.R_drew));exact HO_3.out⟩,⟨by repeat (first | (with_reducible first | exact HB.out | apply below_alloc | apply pw_below_drewN | apply below_drew1) | exact HB.out)⟩⟩
       ·rw [if_neg c8] at H
        have c8b0 : decide (9 ≤ (bt a0 x5_1)) = false := decide_eq_false c8
        clear c8
        have H' := Aside0.mk H
        clear H
        have p5 : 0 ≤ (x5_1 : Int) := of_decide_eq_true (by first | (with_reducible assumption) | assumption)
        have q5 : x5_1 < (a0.size : Int) := of_decide_eq_true (by first | (with_reducible assumption) | assumption)
        have hx5 := bt_at a0 x5_1
        replace p5 := eq_true p5
        replace q5 := eq_true q5
        have p7 : 0 ≤ (x5_1 : Int) := of_decide_eq_true (by first | (with_reducible assumption) | assumption)
        have q7 : x5_1 < (a0.size : Int) := of_decide_eq_true (by first | (with_reducible assumption) | assumption)
        have hx7 := bt_at a0 x5_1
        replace p7 := eq_true p7
        replace q7 := eq_true q7
        go_wp2
        go_meet
        case rel => exact ⟨_,(false),(by first | rfl | (simp;done) | (simp [*];done)),H',⟨by have := HK1.out;first | omega | exact Nat.le_refl _⟩,⟨by (with_reducible repeat (first | apply Kd.R_alloc | apply Kd.R_drewN | apply Kd.R_drew));exact HO_3.out⟩,⟨by repeat (first | (with_reducible first | exact HB.out | apply below_alloc | apply pw_below_drewN | apply below_drew1) | exact HB.out)⟩⟩
     ·rw [if_neg c4] at H
      exact absurd H (by simp)
    case rest =>
     clear HC3
     try clear c2
     try clear c2b0
     try clear p2
     try clear c4
     try clear c4b0
     try clear p5
     try clear q5
     try clear hx5
     try clear c6
     try clear c6b0
     try clear c6b1
     try clear p7
     try clear q7
     try clear hx7
     try clear c8
     try clear c8b0
     try clear p9
     try clear q9
     try clear hx9
     try clear p5
     try clear p7
     try clear p9
     try clear q5
     try clear q7
     try clear q9
     obtain ⟨kq,x27_2,rfl,HA,HJ2,HO_3,HB⟩ := hcut
     cases kq with
     | zero => exact absurd HA.out (by simp [incipitref03_Label.j1])
     | succ kj2 =>
      have H := HA.out
      clear HA
      simp only [incipitref03_Label.j1] at H
      by_cases c10 : x27_2 = true
      ·subst c10
       have H1 : (incipitref03_Label.l0 kj2 a0 x3_1 (decide ((x3_1.length : Int) > 0)) (wrap64 (x5_1 + 1))) = some r := by rw [if_pos rfl] at H;exact H
       clear H
       have H := H1
       clear H1
       have H' := Aside0.mk H
       clear H
       obtain ⟨Ao11,co11,eo11⟩ := Kd.R_slice HO_3.out
       subst eo11
       go_wp2
       go_roundg kj2
       case measure => have := HK1.out;have := HJ2.out;omega
       case rel => exact ⟨(x3_1),(decide ((x3_1.length : Int) > 0)),(wrap64 (x5_1 + 1)),(by first | rfl | (simp;done) | (simp [*];done)),(by first | rfl | (simp;done) | (simp [*];done)),H',⟨by have := HK1.out;have := HJ2.out;omega⟩,⟨by (with_reducible repeat (first | apply Kd.R_alloc | apply Kd.R_drewN | apply Kd.R_drew));exact HO_3.out⟩,⟨by repeat (first | (with_reducible first | exact HB.out | apply below_alloc | apply pw_below_drewN | apply below_drew1) | exact HB.out)⟩⟩
      ·replace c10 := Bool.eq_false_iff.mpr c10
       subst c10
       have H1 : (if x4_1 = true then (if x3_1.length < 140737488355328 then ((some (x3_1 ++ [32] : List Int)).bind fun y166 => (if 0 ≤ x5_1 then (if x5_1 < (a0.size : Int) then (if y166.length < 140737488355328 then (incipitref03_Label.l0 kj2 a0 (y166 ++ [bt a0 x5_1]) false (wrap64 (x5_1 + 1))) else (none)) else (none)) else (none))) else (none)) else (if 0 ≤ x5_1 then (if x5_1 < (a0.size : Int) then (if x3_1.length < 140737488355328 then (incipitref03_Label.l0 kj2 a0 (x3_1 ++ [bt a0 x5_1]) false (wrap64 (x5_1 + 1))) else (none)) else (none)) else (none))) = some r := by rw [if_neg (show ¬ (false = true) by decide)] at H;exact H
       clear H
       have H := H1
       clear H1
       by_cases c12 : x4_1 = true
       ·subst c12
        have H1 : (if x3_1.length < 140737488355328 then ((some (x3_1 ++ [32] : List Int)).bind fun y166 => (if 0 ≤ x5_1 then (if x5_1 < (a0.size : Int) then (if y166.length < 140737488355328 then (incipitref03_Label.l0 kj2 a0 (y166 ++ [bt a0 x5_1]) false (wrap64 (x5_1 + 1))) else (none)) else (none)) else (none))) else (none)) = some r := by rw [if_pos rfl] at H;exact H
        clear H
        have H := H1
        clear H1
        by_cases c13 : x3_1.length < 140737488355328
        ·rw [if_pos c13] at H
         have LMc13 := Aside0.mk c13
         clear c13
         obtain ⟨y166,hy166⟩ : ∃ y_ : List Int,y_ = (x3_1 ++ [32]) := ⟨_,rfl⟩
         replace H : (if 0 ≤ x5_1 then (if x5_1 < (a0.size : Int) then (if y166.length < 140737488355328 then (incipitref03_Label.l0 kj2 a0 (y166 ++ [bt a0 x5_1]) false (wrap64 (x5_1 + 1))) else (none)) else (none)) else (none)) = some r := by first | (rw [hy166];with_reducible exact H) | (have H2_ := (Option.bind_some _ _).symm.trans H;rw [hy166];with_reducible exact H2_) | (have H2_ := (Option.bind_some _ _).symm.trans H;with_reducible exact H2_) | with_reducible exact H | (rw [hy166];exact H) | exact H
         have Ny166 := Aside0.mk hy166
         clear hy166
         by_cases c14 : 0 ≤ x5_1
         ·rw [if_pos c14] at H
          have c14b0 : decide (0 ≤ x5_1) = true := decide_eq_true c14
          clear c14
          by_cases c15 : x5_1 < (a0.size : Int)
          ·rw [if_pos c15] at H
           have c15b0 : decide (x5_1 < (a0.size : Int)) = true := decide_eq_true c15
           clear c15
           by_cases c17 : y166.length < 140737488355328
           ·rw [if_pos c17] at H
            have LMc17 := Aside0.mk c17
            clear c17
            obtain ⟨y169,hy169⟩ : ∃ y_ : List Int,y_ = (y166 ++ [bt a0 x5_1]) := ⟨_,rfl⟩
            replace H : (incipitref03_Label.l0 kj2 a0 y169 false (wrap64 (x5_1 + 1))) = some r := by first | (rw [hy169];with_reducible exact H) | (have H2_ := (Option.bind_some _ _).symm.trans H;rw [hy169];with_reducible exact H2_) | (have H2_ := (Option.bind_some _ _).symm.trans H;with_reducible exact H2_) | with_reducible exact H | (rw [hy169];exact H) | exact H
            have Ny169 := Aside0.mk hy169
            clear hy169
            have H' := Aside0.mk H
            clear H
            go_wp2_with (first | ((with_reducible refine gate_builtin (b := .append) (xs := #[.tmp 32,.tmp 33]) rfl ?_);at_builtin;refine Kd.R_append (Kd.int .u8) (w0 := w) w.heap.size rfl (.tmp 32) (.tmp 33) 60 5 (.int .u8 0) 1 rfl Tryz.underlying60 info5 rfl (by decide) (by omega) u3 x3_1 32 [.int .u8 32] (fun _ => True) (fun _ => False) rfl rfl ?aP (fun _ hk => hk.elim) ?aF ?aO ?aB ?aS ?aL ?_;(case aP => exact rfl);(case aB => exact HB.out);(case aF => exact (fun _ _ => trivial));(case aO => exact (by (with_reducible repeat (first | apply Kd.R_alloc | apply Kd.R_drewN | apply Kd.R_drew));exact HO_3.out));(case aS => exact (below_size HB.out));(case aL => have := LMc13.out;omega);intro v167 w18 ho hb hg hat;rw [← Ny166.out] at ho;have n0_ := Aside0.mk (hb);have n1_ := Aside0.mk (ho);clear HB;clear HO_3;have HB := n0_;have HO168 := n1_;clear n0_ n1_;clear ho hb hg hat;have p16 : 0 ≤ (x5_1 : Int) := of_decide_eq_true (by first | (with_reducible assumption) | assumption);have q16 : x5_1 < (a0.size : Int) := of_decide_eq_true (by first | (with_reducible assumption) | assumption);have hx16 := bt_at a0 x5_1;replace p16 := eq_true p16;replace q16 := eq_true q16) | ((with_reducible refine gate_builtin (b := .append) (xs := #[.tmp 35,.tmp 39]) rfl ?_);at_builtin;refine Kd.R_append (Kd.int .u8) (w0 := w) w.heap.size rfl (.tmp 35) (.tmp 39) 60 5 (.int .u8 0) 1 rfl Tryz.underlying60 info5 rfl (by decide) (by omega) v167 y166 (bt a0 x5_1) [.int .u8 (bt a0 x5_1)] (fun _ => True) (fun _ => False) rfl rfl ?aP (fun _ hk => hk.elim) ?aF ?aO ?aB ?aS ?aL ?_;(case aP => exact rfl);(case aB => exact HB.out);(case aF => exact (fun _ _ => trivial));(case aO => exact (by (with_reducible repeat (first | apply Kd.R_alloc | apply Kd.R_drewN | apply Kd.R_drew));exact HO168.out));(case aS => exact (below_size HB.out));(case aL => have := LMc17.out;omega);intro v170 w19 ho hb hg hat;rw [← Ny169.out] at ho;have n0_ := Aside0.mk (hb);have n1_ := Aside0.mk (ho);clear HB;clear HO168;have HB := n0_;have HO171 := n1_;clear n0_ n1_;clear ho hb hg hat))
            go_roundg kj2
            case measure => have := HK1.out;have := HJ2.out;omega
            case rel => exact ⟨(y169),(false),(wrap64 (x5_1 + 1)),(by first | rfl | (simp;done) | (simp [*];done)),(by first | rfl | (simp;done) | (simp [*];done)),H',⟨by have := HK1.out;have := HJ2.out;omega⟩,⟨by (with_reducible repeat (first | apply Kd.R_alloc | apply Kd.R_drewN | apply Kd.R_drew));exact HO171.out⟩,⟨by repeat (first | (with_reducible first | exact HB.out | apply below_alloc | apply pw_below_drewN | apply below_drew1) | exact HB.out)⟩⟩
           ·rw [if_neg c17] at H
            exact absurd H (by simp)
          ·rw [if_neg c15] at H
           exact absurd H (by simp)
         ·rw [if_neg c14] at H
          exact absurd H (by simp)
        ·rw [if_neg c13] at H
         exact absurd H (by simp)
       ·replace c12 := Bool.eq_false_iff.mpr c12
        subst c12
        have H1 : (if 0 ≤ x5_1 then (if x5_1 < (a0.size : Int) then (if x3_1.length < 140737488355328 then (incipitref03_Label.l0 kj2 a0 (x3_1 ++ [bt a0 x5_1]) false (wrap64 (x5_1 + 1))) else (none)) else (none)) else (none)) = some r := by rw [if_neg (show ¬ (false = true) by decide)] at H;exact H
        clear H
        have H := H1
        clear H1
        by_cases c20 : 0 ≤ x5_1
        ·rw [if_pos c20] at H
         have c20b0 : decide (0 ≤ x5_1) = true := decide_eq_true c20
         clear c20
         by_cases c21 : x5_1 < (a0.size : Int)
         ·rw [if_pos c21] at H
          have c21b0 : decide (x5_1 < (a0.size : Int)) = true := decide_eq_true c21
          clear c21
          by_cases c23 : x3_1.length < 140737488355328
          ·rw [if_pos c23] at H
           have LMc23 := Aside0.mk c23
           clear c23
           obtain ⟨y172,hy172⟩ : ∃ y_ : List Int,y_ = (x3_1 ++ [bt a0 x5_1]) := ⟨_,rfl⟩
           replace H : (incipitref03_Label.l0 kj2 a0 y172 false (wrap64 (x5_1 + 1))) = some r := by first | (rw [hy172];with_reducible exact H) | (have H2_ := (Option.bind_some _ _).symm.trans H;rw [hy172];with_reducible exact H2_) | (have H2_ := (Option.bind_some _ _).symm.trans H;with_reducible exact H2_) | with_reducible exact H | (rw [hy172];exact H) | exact H
           have Ny172 := Aside0.mk hy172
           clear hy172
           have H' := Aside0.mk H
           clear H
           have p22 : 0 ≤ (x5_1 : Int) := of_decide_eq_true (by first | (with_reducible assumption) | assumption)
           have q22 : x5_1 < (a0.size : Int) := of_decide_eq_true (by first | (with_reducible assumption) | assumption)
           have hx22 := bt_at a0 x5_1
           replace p22 := eq_true p22
           replace q22 := eq_true q22
           go_wp2_with (first | ((with_reducible refine gate_builtin (b := .append) (xs := #[.tmp 35,.tmp 39]) rfl ?_);at_builtin;refine Kd.R_append (Kd.int .u8) (w0 := w) w.heap.size rfl (.tmp 35) (.tmp 39) 60 5 (.int .u8 0) 1 rfl Tryz.underlying60 info5 rfl (by decide) (by omega) u3 x3_1 (bt a0 x5_1) [.int .u8 (bt a0 x5_1)] (fun _ => True) (fun _ => False) rfl rfl ?aP (fun _ hk => hk.elim) ?aF ?aO ?aB ?aS ?aL ?_;(case aP => exact rfl);(case aB => exact HB.out);(case aF => exact (fun _ _ => trivial));(case aO => exact (by (with_reducible repeat (first | apply Kd.R_alloc | apply Kd.R_drewN | apply Kd.R_drew));exact HO_3.out));(case aS => exact (below_size HB.out));(case aL => have := LMc23.out;omega);intro v173 w24 ho hb hg hat;rw [← Ny172.out] at ho;have n0_ := Aside0.mk (hb);have n1_ := Aside0.mk (ho);clear HB;clear HO_3;have HB := n0_;have HO174 := n1_;clear n0_ n1_;clear ho hb hg hat))
           go_roundg kj2
           case measure => have := HK1.out;have := HJ2.out;omega
           case rel => exact ⟨(y172),(false),(wrap64 (x5_1 + 1)),(by first | rfl | (simp;done) | (simp [*];done)),(by first | rfl | (simp;done) | (simp [*];done)),H',⟨by have := HK1.out;have := HJ2.out;omega⟩,⟨by (with_reducible repeat (first | apply Kd.R_alloc | apply Kd.R_drewN | apply Kd.R_drew));exact HO174.out⟩,⟨by repeat (first | (with_reducible first | exact HB.out | apply below_alloc | apply pw_below_drewN | apply below_drew1) | exact HB.out)⟩⟩
          ·rw [if_neg c23] at H
           exact absurd H (by simp)
         ·rw [if_neg c21] at H
          exact absurd H (by simp)
        ·rw [if_neg c20] at H
         exact absurd H (by simp)
   ·rw [if_neg c2] at H
    have c2b0 : decide (x5_1 < (a0.size : Int)) = false := decide_eq_false c2
    clear c2
    replace H := Option.bind_eq_some_iff.mp H
    obtain ⟨t165,A250,H⟩ := H
    (try dsimp only at H)
    have A25 := Aside0.mk A250
    clear A250
    obtain rfl := Option.some.inj H
    have hcv26 := own_string (P := Tryz.prog) Tryz.underlying60 Tryz.underlying5 Tryz.underlying9 (Kd.own_of_R HO_3.out)
    go_wp2_with (first | ((with_reducible refine gate_callee (f := 43) rfl ?_);refine goesL_ (some 43) rfl rfl Tryz.func43 (by kernel_rfl) rfl #[.string (strOfNums x3_1)] rfl (by (try simp only [List.map_toArray,List.map_cons,List.map_nil]);try rfl) ?_;(with_reducible refine (incipitref03_Fold.calls k1 (strOfNums x3_1) t165 _ A25.out).mono ?_);rintro e w27 ⟨rfl,hb⟩;refine ⟨_,rfl,?_⟩;have n0_ := Aside0.mk (Kd.R_below (by (with_reducible repeat (first | apply Kd.R_alloc | apply Kd.R_drewN | apply Kd.R_drew));exact HO_3.out) hb);have n1_ := Aside0.mk (below_step HB.out hb);clear HO_3;clear HB;have HO_3 := n0_;have HB := n1_;clear n0_ n1_))
    go_ret
    exact ⟨by first | rfl | (simp [errW_none,errW_some] <;> rfl) | (simp [*,errW_none,errW_some] <;> rfl),by repeat (first | (with_reducible first | exact HB.out | apply below_alloc | apply pw_below_drewN | apply below_drew1) | exact HB.out)⟩

end Go.Proofs.YtekifcbokdidlaaGreatDoor.PA

namespace Go.Proofs.YtekifcbokdidlaaGreatDoor.Pure
open Go.RowKit Go.Proofs.YtekifcbokdidlaaGreatDoorW.PrintWords Go.Proofs.YtekifcbokdidlaaGreatDoorW.PrintMore Go.Proofs.YtekifcbokdidlaaGreatDoor.Pl Go.Proofs.YtekifcbokdidlaaGreatDoor.PA

/-- Is a number in one of some ranges, two ends each? -/
def amg (r : Int) : List Int → Bool
  | a :: b :: t => (decide (a ≤ r) && decide (r ≤ b)) || amg r t
  | _ => false
theorem rd_at (p t : List Int) (a : Int) (i : Nat) (h : p.length = i) : rd (p ++ a :: t) (i : Int) = a := by
  subst h
  unfold rd
  rw [Int.toNat_natCast]
  simp [List.getD_eq_getElem?_getD]
theorem among_step (r a b : Int) (L : List Int) (i : Nat) (V : Bool) (hl : i + 1 < L.length) (hL : L.length ≤ 1000) (ra : rd L (i : Int) = a) (rb : rd L ((i + 1 : Nat) : Int) = b)
  (ih : Ev (fun k => incipitref03_among.l0 k r L ((i + 2 : Nat) : Int)) V) : Ev (fun k => incipitref03_among.l0 k r L (i : Int)) ((decide (a ≤ r) && decide (r ≤ b)) || V) := by
 have w1 : wrap64 ((i : Int) + 1) = ((i + 1 : Nat) : Int) := by rw [w64 (by omega) (by omega)];omega
 have w2 : wrap64 ((i : Int) + 2) = ((i + 2 : Nat) : Int) := by rw [w64 (by omega) (by omega)];omega
 have c1 : ((i + 1 : Nat) : Int) < (L.length : Int) := by omega
 have c2 : (0 : Int) ≤ (i : Int) := by omega
 have c3 : (i : Int) < (L.length : Int) := by omega
 have c4 : (0 : Int) ≤ ((i + 1 : Nat) : Int) := by omega
 by_cases h1 : a ≤ r
 ·by_cases h2 : r ≤ b
  ·rw [decide_eq_true h1,decide_eq_true h2,Bool.true_and,Bool.true_or]
   refine Ev.step (f := fun _ => some true) (fun k => ?_) (Ev.now _)
   rw [incipitref03_among.l0,w1,if_pos c1,if_pos c2,if_pos c3,ra,if_pos h1,if_pos c4,rb,if_pos h2]
  ·rw [decide_eq_true h1,decide_eq_false h2,Bool.true_and,Bool.false_or]
   refine Ev.step (fun k => ?_) ih
   rw [incipitref03_among.l0,w1,if_pos c1,if_pos c2,if_pos c3,ra,if_pos h1,if_pos c4,rb,if_neg h2,w2]
 ·rw [decide_eq_false h1,Bool.false_and,Bool.false_or]
  refine Ev.step (fun k => ?_) ih
  rw [incipitref03_among.l0,w1,if_pos c1,if_pos c2,if_pos c3,ra,if_neg h1,w2]
theorem among_l (r : Int) : ∀ (n : Nat) (l p : List Int),l.length = 2 * n → p.length + l.length ≤ 1000 → Ev (fun k => incipitref03_among.l0 k r (p ++ l) (p.length : Int)) (amg r l)
 | 0,l,p,h,hp => by
  obtain rfl := List.length_eq_zero_iff.1 h
  rw [List.append_nil]
  have c1 : ¬ wrap64 ((p.length : Int) + 1) < (p.length : Int) := by rw [w64 (by omega) (by omega)];omega
  refine Ev.step (f := fun _ => some false) (fun k => ?_) (Ev.now _)
  rw [incipitref03_among.l0,if_neg c1]
 | n + 1,a :: b :: t,p,h,hp => by
  have ih := among_l r n t (p ++ [a,b]) (by simp at h;omega) (by simp at hp ⊢;omega)
  rw [List.append_assoc,show [a,b] ++ t = a :: b :: t from rfl,show (p ++ [a,b]).length = p.length + 2 by simp] at ih
  have ra : rd (p ++ a :: b :: t) (p.length : Int) = a := rd_at p (b :: t) a _ rfl
  have rb : rd (p ++ a :: b :: t) ((p.length + 1 : Nat) : Int) = b := by
   have := rd_at (p ++ [a]) t b (p.length + 1) (by simp)
   rw [List.append_assoc,show [a] ++ b :: t = a :: b :: t from rfl] at this
   exact this
  have hl : (p ++ a :: b :: t).length = p.length + t.length + 2 := by simp;omega
  have hp2 : p.length + t.length + 2 ≤ 1000 := by simp at hp;omega
  have := among_step r a b (p ++ a :: b :: t) p.length (amg r t) (by omega) (by omega) ra rb ih
  rw [amg]
  exact this
 | n + 1,[a],p,h,hp => by simp at h;omega
 | n + 1,[],p,h,hp => by simp at h
theorem among_ev (r : Int) (n : Nat) (l : List Int) (h : l.length = 2 * n) (hl : l.length ≤ 1000) : Ev (fun k => incipitref03_among.f k r l) (amg r l) := among_l r n l [] h (by simpa using hl)
theorem w32 {n : Int} (h0 : 0 ≤ n) (h1 : n ≤ 2000000) : wrap32 n = n := by unfold wrap32;omega
theorem rfold_ev (r : Int) (h0 : 0 < r) (h1 : r ≤ 1114111) (h2 : r < 55296 ∨ 57343 < r) : Ev (fun k => incipitref03_fold.f k r) (B (foldB r)) := by
 unfold incipitref03_fold.f
 by_cases e1 : r = 223
 ·subst e1
  refine Ev.congr (fun k => if_pos rfl) (Ev.step (f := fun _ => some (B [115,115])) (fun k => ?_) (Ev.now _))
  simp only [incipitref03_fold.j0]
  rfl
 ·refine Ev.congr (fun k => if_neg e1) ?_
  by_cases e2 : r = 7838
  ·subst e2
   refine Ev.step (f := fun _ => some (B [115,115])) (fun k => ?_) (Ev.now _)
   simp only [incipitref03_fold.j0]
   rfl
  ·have hA := among_ev r 6 [65,90,192,214,216,222,913,929,931,939,1040,1071] rfl (by decide)
   have hB := among_ev r 1 [1024,1039] rfl (by decide)
   have aA : amg r [65,90,192,214,216,222,913,929,931,939,1040,1071] = true ↔ (65 ≤ r ∧ r ≤ 90) ∨ (192 ≤ r ∧ r ≤ 222 ∧ r ≠ 215) ∨ (913 ≤ r ∧ r ≤ 939 ∧ r ≠ 930) ∨ (1040 ≤ r ∧ r ≤ 1071) := by
    simp only [amg,Bool.or_eq_true,Bool.and_eq_true,decide_eq_true_eq,Bool.false_eq_true,or_false]
    omega
   have aB : amg r [1024,1039] = true ↔ 1024 ≤ r ∧ r ≤ 1039 := by
    simp only [amg,Bool.or_eq_true,Bool.and_eq_true,decide_eq_true_eq,Bool.false_eq_true,or_false]
   rw [show (r == 7838) = false from beq_eq_false_iff_ne.2 e2]
   have hb : foldB r = Lib.encodeRune (foldR r) := if_neg (by rintro (e | e);exact e1 e;exact e2 e)
   rw [hb]
   refine Ev.step (f := fun k => (incipitref03_among.f k r [65,90,192,214,216,222,913,929,931,939,1040,1071]).bind _) (fun k => by
    simp only [incipitref03_fold.j0]
    rw [if_neg (by decide)]) (Ev.bind hA ?_)
   by_cases c1 : amg r [65,90,192,214,216,222,913,929,931,939,1040,1071] = true
   ·have c1' := aA.1 c1
    have hf : foldR r = r + 32 := by
     unfold foldR
     rw [if_neg (by omega),if_pos c1']
    rw [hf,← enc_eq (r + 32) (by omega) (by omega) (by omega)]
    refine Ev.congr (f := fun _ => some (Utf8.encode (r + 32))) (fun k => ?_) (Ev.now _)
    rw [if_pos c1,w32 (by omega) (by omega)]
   ·have c1' := fun h => c1 (aA.2 h)
    refine Ev.congr (fun k => if_neg c1) ?_
    refine Ev.bind hB ?_
    by_cases c2 : amg r [1024,1039] = true
    ·have c2' := aB.1 c2
     have hf : foldR r = r + 80 := by
      unfold foldR
      rw [if_neg (by omega),if_neg c1',if_pos c2']
     rw [hf,← enc_eq (r + 80) (by omega) (by omega) (by omega)]
     refine Ev.congr (f := fun _ => some (Utf8.encode (r + 80))) (fun k => ?_) (Ev.now _)
     rw [if_pos c2,w32 (by omega) (by omega)]
    ·have c2' := fun h => c2 (aB.2 h)
     refine Ev.congr (fun k => if_neg c2) ?_
     by_cases c3 : r = 962
     ·subst c3
      exact Ev.congr (f := fun _ => some (B (Lib.encodeRune (foldR 962)))) (fun k => by rw [if_pos rfl];rfl) (Ev.now _)
     ·have hf : foldR r = r := by
       unfold foldR
       rw [if_neg c3,if_neg c1',if_neg c2']
      rw [hf,← enc_eq r (by omega) (by omega) (by omega)]
      exact Ev.congr (f := fun _ => some (Utf8.encode r)) (fun k => if_neg c3) (Ev.now _)
theorem rFold_l : ∀ (l p : List Int) (acc : List UInt8),(∀ n ∈ l,0 < n ∧ n ≤ 1114111 ∧ (n < 55296 ∨ 57343 < n)) → p.length + l.length ≤ 1000000 → acc.length + 4 * l.length ≤ 10000000 →
  Ev (fun k => incipitref03_Fold.l0 k (B acc) (p ++ l) (p.length : Int)) (B (acc ++ foldL l))
 | [],p,acc,_,hp,ha => by
  refine Ev.step (f := fun _ => some (B (acc ++ foldL []))) (fun k => ?_) (Ev.now _)
  simp only [incipitref03_Fold.l0]
  rw [if_neg (by rw [List.append_nil];omega),show foldL [] = [] from rfl,List.append_nil]
 | n :: l,p,acc,h,hp,ha => by
  have hp' : p.length + l.length + 1 ≤ 1000000 := by simp at hp;omega
  have ha' : acc.length + 4 * l.length + 4 ≤ 10000000 := by simp at ha;omega
  have hn := h n (by simp)
  have hb := foldB_len n
  have ih := rFold_l l (p ++ [n]) (acc ++ foldB n) (fun m hm => h m (by simp [hm])) (by simp;omega) (by rw [List.length_append];omega)
  rw [List.append_assoc,show [n] ++ l = n :: l from rfl,show (p ++ [n]).length = p.length + 1 by simp,List.append_assoc] at ih
  have hr : rd (p ++ n :: l) (p.length : Int) = n := rd_at p l n _ rfl
  have hl : (p ++ n :: l).length = p.length + l.length + 1 := by simp;omega
  refine Ev.step (f := fun k => (incipitref03_fold.f k n).bind _) (fun k => by
   simp only [incipitref03_Fold.l0]
   rw [if_pos (by rw [hl];omega),if_pos (by omega),hr]) (Ev.bind (rfold_ev n hn.1 hn.2.1 hn.2.2) ?_)
  rw [show foldL (n :: l) = foldB n ++ foldL l from rfl]
  refine Ev.congr (fun k => ?_) ih
  rw [if_pos (by rw [B_size,B_size];omega),B_append,w64 (by omega) (by omega)]
  rfl
theorem rruns_ev (s : List UInt8) (h : s.length ≤ 100000) : Ev (fun k => incipitref01_Runes.f k (B s)) (chars (clean s)) := by
  obtain ⟨K,hK⟩ := rclean_ev s (by omega)
  refine ⟨max K 7,fun k hk => ?_⟩
  show incipitref01_Runes.f k (B s) = _
  unfold incipitref01_Runes.f
  rw [B_data,if_pos ⟨by rw [B_size];omega,by omega,hK k (by omega)⟩]
theorem rFold_ev (s : List UInt8) (h : s.length ≤ 100000) : Ev (fun k => incipitref03_Fold.f k (B s)) (B (foldL (chars (clean s)))) := by
  have hc := chars_clean s
  refine Ev.bind (rruns_ev s h) ?_
  exact rFold_l (chars (clean s)) [] [] hc.1 (by have := hc.2.1;simp;omega) (by have := hc.2.1;simp;omega)
theorem whB_int (x : UInt8) : whB x = true ↔ ((x.toNat : Int) = 32 ∨ ((x.toNat : Int) ≥ 9 ∧ (x.toNat : Int) ≤ 13)) := by
  unfold whB
  simp only [Bool.or_eq_true,Bool.and_eq_true,decide_eq_true_eq]
  omega
theorem bt_at1 (p r : List UInt8) (x : UInt8) : bt (B (p ++ x :: r)) (p.length : Int) = (x.toNat : Int) := by
  rw [B_bt (p ++ x :: r) p.length (by simp)]
  simp
theorem rlab_j1 (p r b : List UInt8) (x : UInt8) (g : Bool) (hp : p.length + r.length + 1 ≤ 20000) (hb : b.length ≤ 2 * p.length)
  (hY : Ev (fun k => incipitref03_Label.l0 k (B (p ++ x :: r)) (nms b) (decide (b ≠ [])) ((p.length + 1 : Nat) : Int)) (B (foldL (chars (clean (cl b (decide (b ≠ [])) r))))))
  (hN : Ev (fun k => incipitref03_Label.l0 k (B (p ++ x :: r)) (nms (b ++ (if g = true then [32] else []) ++ [x])) false ((p.length + 1 : Nat) : Int)) (B (foldL (chars (clean (cl (b ++ (if g = true then [32] else []) ++ [x]) false r)))))) :
  Ev (fun k => incipitref03_Label.j1 k (B (p ++ x :: r)) (nms b) g (p.length : Int) (whB x)) (B (foldL (chars (clean (cl b g (x :: r)))))) := by
 have w1 : wrap64 ((p.length : Int) + 1) = ((p.length + 1 : Nat) : Int) := by rw [w64 (by omega) (by omega)];omega
 have hsz : (p.length : Int) < ((B (p ++ x :: r)).size : Int) := by rw [B_size];simp;omega
 have hz := bt_at1 p r x
 rw [cl]
 cases hw : whB x with
 | true =>
  rw [if_pos rfl]
  refine Ev.step (fun k => ?_) hY
  simp only [incipitref03_Label.j1]
  rw [if_pos (by first | trivial | rfl),nms_len,w1]
  congr 1
  exact decide_eq_decide.2 ⟨fun h e => by rw [e] at h;simp at h,fun h => by rcases Nat.eq_zero_or_pos b.length with e | e;exact absurd (List.length_eq_zero_iff.1 e) h;omega⟩
 | false =>
  rw [if_neg (by decide)]
  have h32 : nms b ++ [32] = nms (b ++ [32]) := by simp [nms]
  have hx1 : ∀ c : List UInt8,nms c ++ [(x.toNat : Int)] = nms (c ++ [x]) := fun c => by simp [nms]
  refine Ev.step (fun k => ?_) hN
  simp only [incipitref03_Label.j1]
  cases g with
  | true => 
   rw [if_neg (by decide),if_pos (by first | trivial | rfl),if_pos (by rw [nms_len];omega),Option.bind_some,if_pos (by omega),if_pos hsz,if_pos (by rw [List.length_append,nms_len];simp;omega),hz,w1,h32,hx1]
   rfl
  | false => 
   rw [if_neg (by decide),if_neg (by decide),if_pos (by omega),if_pos hsz,if_pos (by rw [nms_len];omega),hz,w1,hx1]
   rw [if_neg (by decide),List.append_nil]
theorem rlab_l : ∀ (r p b : List UInt8) (g : Bool),p.length + r.length ≤ 20000 → b.length ≤ 2 * p.length →
  Ev (fun k => incipitref03_Label.l0 k (B (p ++ r)) (nms b) g (p.length : Int)) (B (foldL (chars (clean (cl b g r)))))
 | [],p,b,g,hp,hb => by
  rw [cl]
  refine Ev.step (f := fun k => (incipitref03_Fold.f k (B b)).bind _) (fun k => by
   simp only [incipitref03_Label.l0]
   rw [if_neg (by rw [B_size,List.append_nil];omega),nms_str]) (Ev.bind (rFold_ev b (by simp at hp;omega)) (Ev.now _))
 | x :: r,p,b,g,hp,hb => by
  have hp' : p.length + r.length + 1 ≤ 20000 := by simp at hp;omega
  have hY := rlab_l r (p ++ [x]) b (decide (b ≠ [])) (by simp;omega) (by simp;omega)
  have hN := rlab_l r (p ++ [x]) (b ++ (if g = true then [32] else []) ++ [x]) false (by simp;omega) (by cases g <;> simp <;> omega)
  rw [List.append_assoc,show [x] ++ r = x :: r from rfl,show (p ++ [x]).length = p.length + 1 by simp] at hY hN
  have hj := rlab_j1 p r b x g hp' hb hY hN
  have hsz : (p.length : Int) < ((B (p ++ x :: r)).size : Int) := by rw [B_size];simp;omega
  have hz := bt_at1 p r x
  refine Ev.step (fun k => ?_) hj
  simp only [incipitref03_Label.l0]
  rw [if_pos hsz,if_pos (by omega),hz]
  have hw := whB_int x
  by_cases h1 : (x.toNat : Int) = 32
  ·rw [if_pos h1,hw.2 (.inl h1)]
  ·rw [if_neg h1]
   by_cases h2 : (x.toNat : Int) ≥ 9
   ·rw [if_pos h2]
    by_cases h3 : (x.toNat : Int) ≤ 13
    ·rw [hw.2 (.inr ⟨h2,h3⟩),decide_eq_true h3]
    ·rw [show whB x = false from Bool.eq_false_iff.2 (fun e => by rcases hw.1 e with e | e;exact h1 e;exact h3 e.2),decide_eq_false h3]
   ·rw [if_neg h2,show whB x = false from Bool.eq_false_iff.2 (fun e => by rcases hw.1 e with e | e;exact h1 e;exact h2 e.1)]
theorem rlbl_ev (s : List UInt8) (h : s.length ≤ 20000) : Ev (fun k => incipitref03_Label.f k (B s)) (B (lbl s)) := by
  have := rlab_l s [] [] false (by simpa using h) (by simp)
  rw [cl_jn] at this
  exact this
end Go.Proofs.YtekifcbokdidlaaGreatDoor.Pure

namespace Go.Proofs.YtekifcbokdidlaaGreatDoor.PA
open Go.RowKit Go.Proofs.YtekifcbokdidlaaGreatDoorW.PrintWords Go.Proofs.YtekifcbokdidlaaGreatDoorW.PrintLast Go.Proofs.YtekifcbokdidlaaGreatDoorW.PrintMore
attribute [local go_sem] max2_int min2_int max_two min_two max_three min_three max_four min_four   -- for this text's walks alone
set_option linter.unusedVariables false
set_option linter.unusedSimpArgs false

/-! ### incipitref10_Find: function 11 -/
/-! ### incipitref10_Same: function 12 -/
def incipitref10_Same.l0 : Nat → List (S26) → List (S26) → Int → Option (Bool)
  | 0,_,_,_ => none
  | k + 1,x0,x1,x5 => if x5 < (x0.length : Int) then (if 0 ≤ x5 then (if x5 < (x1.length : Int) then (if ((rd_T26 x0 x5).f0).toList = ((rd_T26 x1 x5).f0).toList then (if ((rd_T26 x0 x5).f1).toList = ((rd_T26 x1 x5).f1).toList then (if ((rd_T26 x0 x5).f2).toList = ((rd_T26 x1 x5).f2).toList then (incipitref10_Same.l0 k x0 x1 (wrap64 (x5 + 1))) else (some false)) else (some false)) else (some false)) else (none)) else (none)) else (some true)
def incipitref10_Same.f (k : Nat) (l0 : List (S26)) (l1 : List (S26)) : Option (Bool) := if (l0.length : Int) = (l1.length : Int) then (incipitref10_Same.l0 k l0 l1 0) else (some false)
set_option maxHeartbeats 8000000 in
set_option maxRecDepth 100000 in
theorem incipitref10_Same.calls (k : Nat) (A0 : Option Addr) (c0 : Nat) (l0 : List (S26)) (A1 : Option Addr) (c1 : Nat) (l1 : List (S26)) (r : Bool) (w : World) (hr0 : Kd.C k26 w A0 l0.length l0) (hc0 : l0.length ≤ c0) (hr1 : Kd.C k26 w A1 l1.length l1) (hc1 : l1.length ≤ c1) (h : incipitref10_Same.f k l0 l1 = some r) :
  Calls Tryz.prog 12 #[.slice A0 l0.length c0,.slice A1 l1.length c1] w fun e w' => e = .returned (.bool r) ∧ Drawn0 w w' := by
 have HR0 := Aside0.mk hr0
 have HC0 := Aside0.mk hc0
 clear hr0 hc0
 have HR1 := Aside0.mk hr1
 have HC1 := Aside0.mk hc1
 clear hr1 hc1
 have H : (if (l0.length : Int) = (l1.length : Int) then (incipitref10_Same.l0 k l0 l1 0) else (some false)) = some r := h
 clear h
 by_cases c3 : (l0.length : Int) = (l1.length : Int)
 ·rw [if_pos c3] at H
  have c3b0 : ((l0.length : Int) == (l1.length : Int)) = true := beq_iff_eq.mpr c3
  have c3b1 : ((l0.length : Int) != (l1.length : Int)) = false := bne_eq_false_iff_eq.mpr c3
  have c3b2 : (l0.length == l1.length) = true := by first | simpa using c3 | (simp at c3 ⊢;omega)
  clear c3
  have H' := Aside0.mk H
  clear H
  go_enter Tryz.func12,Tryz.ntmps12
  go_wp2
  repeat (go_quiet (fail);try go_wp2)
  go_loopg [5] k (fun kq v5 w' => ∃ (x5_1 : Int),v5 = .int .i64 x5_1 ∧ Aside0 (incipitref10_Same.l0 kq l0 l1 x5_1 = some r) ∧ Aside0 (kq ≤ k) ∧ Drawn0 w w')
  case atStart => exact ⟨(0),(by first | rfl | (simp;done) | (simp [*];done)),H',⟨Nat.le_refl _⟩,by repeat (first | exact Drawn0.refl _ | apply Drawn0.step)⟩
  case round =>
   clear H'
   try clear c1
   try clear p2
   try clear c3
   try clear c3b0
   try clear c3b1
   try clear c3b2
   obtain ⟨x5_1,rfl,HA,HK1,⟨m1,rfl⟩⟩ := hrel
   cases gk with
   | zero => exact absurd HA.out (by simp [incipitref10_Same.l0])
   | succ k1 =>
    have H := HA.out
    clear HA
    simp only [incipitref10_Same.l0] at H
    by_cases c4 : x5_1 < (l0.length : Int)
    ·rw [if_pos c4] at H
     have c4b0 : decide (x5_1 < (l0.length : Int)) = true := decide_eq_true c4
     clear c4
     by_cases c5 : 0 ≤ x5_1
     ·rw [if_pos c5] at H
      have c5b0 : decide (0 ≤ x5_1) = true := decide_eq_true c5
      clear c5
      by_cases c6 : x5_1 < (l1.length : Int)
      ·rw [if_pos c6] at H
       have c6b0 : decide (x5_1 < (l1.length : Int)) = true := decide_eq_true c6
       clear c6
       by_cases c7 : ((rd_T26 l0 x5_1).f0).toList = ((rd_T26 l1 x5_1).f0).toList
       ·rw [if_pos c7] at H
        have c7b0 : (((rd_T26 l0 x5_1).f0).toList == ((rd_T26 l1 x5_1).f0).toList) = true := beq_iff_eq.mpr c7
        have c7b1 : (((rd_T26 l0 x5_1).f0).toList != ((rd_T26 l1 x5_1).f0).toList) = false := bne_eq_false_iff_eq.mpr c7
        clear c7
        by_cases c8 : ((rd_T26 l0 x5_1).f1).toList = ((rd_T26 l1 x5_1).f1).toList
        ·rw [if_pos c8] at H
         have c8b0 : (((rd_T26 l0 x5_1).f1).toList == ((rd_T26 l1 x5_1).f1).toList) = true := beq_iff_eq.mpr c8
         have c8b1 : (((rd_T26 l0 x5_1).f1).toList != ((rd_T26 l1 x5_1).f1).toList) = false := bne_eq_false_iff_eq.mpr c8
         clear c8
         by_cases c9 : ((rd_T26 l0 x5_1).f2).toList = ((rd_T26 l1 x5_1).f2).toList
         ·rw [if_pos c9] at H
          have c9b0 : (((rd_T26 l0 x5_1).f2).toList == ((rd_T26 l1 x5_1).f2).toList) = true := beq_iff_eq.mpr c9
          have c9b1 : (((rd_T26 l0 x5_1).f2).toList != ((rd_T26 l1 x5_1).f2).toList) = false := bne_eq_false_iff_eq.mpr c9
          clear c9
          have H' := Aside0.mk H
          clear H
          have p179 : 0 ≤ (x5_1 : Int) := of_decide_eq_true (by first | (with_reducible assumption) | assumption)
          have q179 : x5_1 < (l0.length : Int) := of_decide_eq_true (by first | (with_reducible assumption) | assumption)
          obtain ⟨ad179,e179,hx179_0,hx179_1,hx179_2⟩ := at_T26 HR0.out x5_1 p179 q179
          cases e179
          replace p179 := eq_true p179
          replace q179 := eq_true q179
          have p180 : 0 ≤ (x5_1 : Int) := of_decide_eq_true (by first | (with_reducible assumption) | assumption)
          have q180 : x5_1 < (l1.length : Int) := of_decide_eq_true (by first | (with_reducible assumption) | assumption)
          obtain ⟨ad180,e180,hx180_0,hx180_1,hx180_2⟩ := at_T26 HR1.out x5_1 p180 q180
          cases e180
          replace p180 := eq_true p180
          replace q180 := eq_true q180
          have p181 : 0 ≤ (x5_1 : Int) := of_decide_eq_true (by first | (with_reducible assumption) | assumption)
          have q181 : x5_1 < (l0.length : Int) := of_decide_eq_true (by first | (with_reducible assumption) | assumption)
          obtain ⟨ad181,e181,hx181_0,hx181_1,hx181_2⟩ := at_T26 HR0.out x5_1 p181 q181
          obtain rfl : ad179 = ad181 := (by injection e181)
          replace p181 := eq_true p181
          replace q181 := eq_true q181
          have p182 : 0 ≤ (x5_1 : Int) := of_decide_eq_true (by first | (with_reducible assumption) | assumption)
          have q182 : x5_1 < (l1.length : Int) := of_decide_eq_true (by first | (with_reducible assumption) | assumption)
          obtain ⟨ad182,e182,hx182_0,hx182_1,hx182_2⟩ := at_T26 HR1.out x5_1 p182 q182
          obtain rfl : ad180 = ad182 := (by injection e182)
          replace p182 := eq_true p182
          replace q182 := eq_true q182
          have p183 : 0 ≤ (x5_1 : Int) := of_decide_eq_true (by first | (with_reducible assumption) | assumption)
          have q183 : x5_1 < (l0.length : Int) := of_decide_eq_true (by first | (with_reducible assumption) | assumption)
          obtain ⟨ad183,e183,hx183_0,hx183_1,hx183_2⟩ := at_T26 HR0.out x5_1 p183 q183
          obtain rfl : ad179 = ad183 := (by injection e183)
          replace p183 := eq_true p183
          replace q183 := eq_true q183
          have p184 : 0 ≤ (x5_1 : Int) := of_decide_eq_true (by first | (with_reducible assumption) | assumption)
          have q184 : x5_1 < (l1.length : Int) := of_decide_eq_true (by first | (with_reducible assumption) | assumption)
          obtain ⟨ad184,e184,hx184_0,hx184_1,hx184_2⟩ := at_T26 HR1.out x5_1 p184 q184
          obtain rfl : ad180 = ad184 := (by injection e184)
          replace p184 := eq_true p184
          replace q184 := eq_true q184
          go_wp2
          repeat (go_quiet (fail);try go_wp2)
          go_roundg k1
          case measure => have := HK1.out;omega
          case rel => exact ⟨(wrap64 (x5_1 + 1)),(by first | rfl | (simp;done) | (simp [*];done)),H',⟨by have := HK1.out;omega⟩,by repeat (first | exact Drawn0.refl _ | apply Drawn0.step)⟩
         ·rw [if_neg c9] at H
          have c9b0 : (((rd_T26 l0 x5_1).f2).toList == ((rd_T26 l1 x5_1).f2).toList) = false := beq_eq_false_iff_ne.mpr c9
          have c9b1 : (((rd_T26 l0 x5_1).f2).toList != ((rd_T26 l1 x5_1).f2).toList) = true := bne_iff_ne.mpr c9
          obtain rfl := Option.some.inj H
          have p179 : 0 ≤ (x5_1 : Int) := of_decide_eq_true (by first | (with_reducible assumption) | assumption)
          have q179 : x5_1 < (l0.length : Int) := of_decide_eq_true (by first | (with_reducible assumption) | assumption)
          obtain ⟨ad179,e179,hx179_0,hx179_1,hx179_2⟩ := at_T26 HR0.out x5_1 p179 q179
          cases e179
          replace p179 := eq_true p179
          replace q179 := eq_true q179
          have p180 : 0 ≤ (x5_1 : Int) := of_decide_eq_true (by first | (with_reducible assumption) | assumption)
          have q180 : x5_1 < (l1.length : Int) := of_decide_eq_true (by first | (with_reducible assumption) | assumption)
          obtain ⟨ad180,e180,hx180_0,hx180_1,hx180_2⟩ := at_T26 HR1.out x5_1 p180 q180
          cases e180
          replace p180 := eq_true p180
          replace q180 := eq_true q180
          have p181 : 0 ≤ (x5_1 : Int) := of_decide_eq_true (by first | (with_reducible assumption) | assumption)
          have q181 : x5_1 < (l0.length : Int) := of_decide_eq_true (by first | (with_reducible assumption) | assumption)
          obtain ⟨ad181,e181,hx181_0,hx181_1,hx181_2⟩ := at_T26 HR0.out x5_1 p181 q181
          obtain rfl : ad179 = ad181 := (by injection e181)
          replace p181 := eq_true p181
          replace q181 := eq_true q181
          have p182 : 0 ≤ (x5_1 : Int) := of_decide_eq_true (by first | (with_reducible assumption) | assumption)
          have q182 : x5_1 < (l1.length : Int) := of_decide_eq_true (by first | (with_reducible assumption) | assumption)
          obtain ⟨ad182,e182,hx182_0,hx182_1,hx182_2⟩ := at_T26 HR1.out x5_1 p182 q182
          obtain rfl : ad180 = ad182 := (by injection e182)
          replace p182 := eq_true p182
          replace q182 := eq_true q182
          have p183 : 0 ≤ (x5_1 : Int) := of_decide_eq_true (by first | (with_reducible assumption) | assumption)
          have q183 : x5_1 < (l0.length : Int) := of_decide_eq_true (by first | (with_reducible assumption) | assumption)
          obtain ⟨ad183,e183,hx183_0,hx183_1,hx183_2⟩ := at_T26 HR0.out x5_1 p183 q183
          obtain rfl : ad179 = ad183 := (by injection e183)
          replace p183 := eq_true p183
          replace q183 := eq_true q183
          have p184 : 0 ≤ (x5_1 : Int) := of_decide_eq_true (by first | (with_reducible assumption) | assumption)
          have q184 : x5_1 < (l1.length : Int) := of_decide_eq_true (by first | (with_reducible assumption) | assumption)
          obtain ⟨ad184,e184,hx184_0,hx184_1,hx184_2⟩ := at_T26 HR1.out x5_1 p184 q184
          obtain rfl : ad180 = ad184 := (by injection e184)
          replace p184 := eq_true p184
          replace q184 := eq_true q184
          go_wp2
          repeat (go_quiet (fail);try go_wp2)
          go_ret
          exact ⟨by first | rfl | exact retNe _ | (simp;done) | (simp [*];done),by repeat (first | exact Drawn0.refl _ | apply Drawn0.step)⟩
        ·rw [if_neg c8] at H
         have c8b0 : (((rd_T26 l0 x5_1).f1).toList == ((rd_T26 l1 x5_1).f1).toList) = false := beq_eq_false_iff_ne.mpr c8
         have c8b1 : (((rd_T26 l0 x5_1).f1).toList != ((rd_T26 l1 x5_1).f1).toList) = true := bne_iff_ne.mpr c8
         obtain rfl := Option.some.inj H
         have p179 : 0 ≤ (x5_1 : Int) := of_decide_eq_true (by first | (with_reducible assumption) | assumption)
         have q179 : x5_1 < (l0.length : Int) := of_decide_eq_true (by first | (with_reducible assumption) | assumption)
         obtain ⟨ad179,e179,hx179_0,hx179_1,hx179_2⟩ := at_T26 HR0.out x5_1 p179 q179
         cases e179
         replace p179 := eq_true p179
         replace q179 := eq_true q179
         have p180 : 0 ≤ (x5_1 : Int) := of_decide_eq_true (by first | (with_reducible assumption) | assumption)
         have q180 : x5_1 < (l1.length : Int) := of_decide_eq_true (by first | (with_reducible assumption) | assumption)
         obtain ⟨ad180,e180,hx180_0,hx180_1,hx180_2⟩ := at_T26 HR1.out x5_1 p180 q180
         cases e180
         replace p180 := eq_true p180
         replace q180 := eq_true q180
         have p181 : 0 ≤ (x5_1 : Int) := of_decide_eq_true (by first | (with_reducible assumption) | assumption)
         have q181 : x5_1 < (l0.length : Int) := of_decide_eq_true (by first | (with_reducible assumption) | assumption)
         obtain ⟨ad181,e181,hx181_0,hx181_1,hx181_2⟩ := at_T26 HR0.out x5_1 p181 q181
         obtain rfl : ad179 = ad181 := (by injection e181)
         replace p181 := eq_true p181
         replace q181 := eq_true q181
         have p182 : 0 ≤ (x5_1 : Int) := of_decide_eq_true (by first | (with_reducible assumption) | assumption)
         have q182 : x5_1 < (l1.length : Int) := of_decide_eq_true (by first | (with_reducible assumption) | assumption)
         obtain ⟨ad182,e182,hx182_0,hx182_1,hx182_2⟩ := at_T26 HR1.out x5_1 p182 q182
         obtain rfl : ad180 = ad182 := (by injection e182)
         replace p182 := eq_true p182
         replace q182 := eq_true q182
         go_wp2
         repeat (go_quiet (fail);try go_wp2)
         go_ret
         exact ⟨by first | rfl | exact retNe _ | (simp;done) | (simp [*];done),by repeat (first | exact Drawn0.refl _ | apply Drawn0.step)⟩
       ·rw [if_neg c7] at H
        have c7b0 : (((rd_T26 l0 x5_1).f0).toList == ((rd_T26 l1 x5_1).f0).toList) = false := beq_eq_false_iff_ne.mpr c7
        have c7b1 : (((rd_T26 l0 x5_1).f0).toList != ((rd_T26 l1 x5_1).f0).toList) = true := bne_iff_ne.mpr c7
        obtain rfl := Option.some.inj H
        have p179 : 0 ≤ (x5_1 : Int) := of_decide_eq_true (by first | (with_reducible assumption) | assumption)
        have q179 : x5_1 < (l0.length : Int) := of_decide_eq_true (by first | (with_reducible assumption) | assumption)
        obtain ⟨ad179,e179,hx179_0,hx179_1,hx179_2⟩ := at_T26 HR0.out x5_1 p179 q179
        cases e179
        replace p179 := eq_true p179
        replace q179 := eq_true q179
        have p180 : 0 ≤ (x5_1 : Int) := of_decide_eq_true (by first | (with_reducible assumption) | assumption)
        have q180 : x5_1 < (l1.length : Int) := of_decide_eq_true (by first | (with_reducible assumption) | assumption)
        obtain ⟨ad180,e180,hx180_0,hx180_1,hx180_2⟩ := at_T26 HR1.out x5_1 p180 q180
        cases e180
        replace p180 := eq_true p180
        replace q180 := eq_true q180
        go_wp2
        repeat (go_quiet (fail);try go_wp2)
        go_ret
        exact ⟨by first | rfl | exact retNe _ | (simp;done) | (simp [*];done),by repeat (first | exact Drawn0.refl _ | apply Drawn0.step)⟩
      ·rw [if_neg c6] at H
       exact absurd H (by simp)
     ·rw [if_neg c5] at H
      exact absurd H (by simp)
    ·rw [if_neg c4] at H
     have c4b0 : decide (x5_1 < (l0.length : Int)) = false := decide_eq_false c4
     clear c4
     obtain rfl := Option.some.inj H
     go_wp2
     repeat (go_quiet (fail);try go_wp2)
     go_ret
     exact ⟨by first | rfl | exact retNe _ | (simp;done) | (simp [*];done),by repeat (first | exact Drawn0.refl _ | apply Drawn0.step)⟩
 ·rw [if_neg c3] at H
  have c3b0 : ((l0.length : Int) == (l1.length : Int)) = false := beq_eq_false_iff_ne.mpr c3
  have c3b1 : ((l0.length : Int) != (l1.length : Int)) = true := bne_iff_ne.mpr c3
  have c3b2 : (l0.length == l1.length) = false := by first | simpa using c3 | (simp at c3 ⊢;omega)
  obtain rfl := Option.some.inj H
  go_enter Tryz.func12,Tryz.ntmps12
  go_wp2
  repeat (go_quiet (fail);try go_wp2)
  go_ret
  exact ⟨by first | rfl | exact retNe _ | (simp;done) | (simp [*];done),by repeat (first | exact Drawn0.refl _ | apply Drawn0.step)⟩


/-! ### incipitref10_Add: function 14 -/
end Go.Proofs.YtekifcbokdidlaaGreatDoor.PA

namespace Go.Proofs.YtekifcbokdidlaaGreatDoor.PA
open Go.RowKit Go.Proofs.YtekifcbokdidlaaGreatDoorW.PrintWords Go.Proofs.YtekifcbokdidlaaGreatDoorW.PrintLast Go.Proofs.YtekifcbokdidlaaGreatDoorW.PrintMore
attribute [local go_sem] max2_int min2_int max_two min_two max_three min_three max_four min_four   -- for this text's walks alone
set_option linter.unusedVariables false
set_option linter.unusedSimpArgs false

/-! ### incipitref10_Take: function 16 -/
def incipitref10_Take.j0 : Nat → ByteArray → ByteArray → Int → Bool → Option (ByteArray × ByteArray × ByteArray × Int)
 | 0,_,_,_,_ => none
 | k + 1,x0,x4,x5,x32 => if x32 = true then (some ((⟨#[]⟩ : ByteArray),(⟨#[]⟩ : ByteArray),(⟨#[]⟩ : ByteArray),0)) else (if 0 ≤ (wrap64 (x5 + 1)) then (if (wrap64 (x5 + 1)) ≤ (x0.size : Int) then ((incipitref10_gap.f k (x0.extract ((wrap64 (x5 + 1)) : Int).toNat x0.size)).bind fun t317 => (if t317 < 0 then (some ((⟨#[]⟩ : ByteArray),(⟨#[]⟩ : ByteArray),(⟨#[]⟩ : ByteArray),0)) else (if 0 ≤ (wrap64 ((wrap64 (x5 + 1)) + t317)) then (if (wrap64 ((wrap64 (x5 + 1)) + t317)) ≤ (x0.size : Int) then ((incipitref09_Dest.f k (x0.extract ((wrap64 ((wrap64 (x5 + 1)) + t317)) : Int).toNat x0.size)).bind fun bt318 => (if bt318.2.2 = true then ((incipitref03_Label.f k x4).bind fun t321 => (if 0 ≤ (wrap64 ((wrap64 ((wrap64 (x5 + 1)) + t317)) + bt318.2.1)) then (if (wrap64 ((wrap64 ((wrap64 (x5 + 1)) + t317)) + bt318.2.1)) ≤ (x0.size : Int) then ((incipitref10_titled.f k (x0.extract ((wrap64 ((wrap64 ((wrap64 (x5 + 1)) + t317)) + bt318.2.1)) : Int).toNat x0.size)).bind fun bt323 => (if bt323.2 ≥ 0 then (some (t321,bt318.1,bt323.1,wrap64 ((wrap64 ((wrap64 ((wrap64 (x5 + 1)) + t317)) + bt318.2.1)) + bt323.2))) else ((incipitref10_end.f k (x0.extract ((wrap64 ((wrap64 ((wrap64 (x5 + 1)) + t317)) + bt318.2.1)) : Int).toNat x0.size)).bind fun t325 => (if t325 < 0 then (some ((⟨#[]⟩ : ByteArray),(⟨#[]⟩ : ByteArray),(⟨#[]⟩ : ByteArray),0)) else (some (t321,bt318.1,(⟨#[]⟩ : ByteArray),wrap64 ((wrap64 ((wrap64 ((wrap64 (x5 + 1)) + t317)) + bt318.2.1)) + t325))))))) else (none)) else (none))) else (some ((⟨#[]⟩ : ByteArray),(⟨#[]⟩ : ByteArray),(⟨#[]⟩ : ByteArray),0)))) else (none)) else (none)))) else (none)) else (none))
def incipitref10_Take.f (k : Nat) (a0 : ByteArray) : Option (ByteArray × ByteArray × ByteArray × Int) := (incipitref09_Label.f k a0).bind fun bt315 => (if bt315.2 = 0 then (incipitref10_Take.j0 k a0 bt315.1 bt315.2 true) else (if bt315.2 = (a0.size : Int) then (incipitref10_Take.j0 k a0 bt315.1 bt315.2 true) else (if 0 ≤ bt315.2 then (if bt315.2 < (a0.size : Int) then (incipitref10_Take.j0 k a0 bt315.1 bt315.2 ((bt a0 bt315.2) != 58)) else (none)) else (none))))
set_option maxHeartbeats 8000000 in
set_option maxRecDepth 100000 in
theorem incipitref10_Take.calls (k : Nat) (a0 : ByteArray) (r1 : ByteArray) (r2 : ByteArray) (r3 : ByteArray) (r4 : Int) (w : World) (h : incipitref10_Take.f k a0 = some (r1,r2,r3,r4)) :
  Calls Tryz.prog 16 #[.string a0] w fun e w' => e = .returned (.tuple #[.agg #[.string r1,.string r2,.string r3],.int .i64 r4]) ∧ Below w.heap.size w w' := by
 have hu26 := Tryz.underlying26
 have HB := Aside0.mk (Below.refl w.heap.size w)
 have H : ((incipitref09_Label.f k a0).bind fun bt315 => (if bt315.2 = 0 then (incipitref10_Take.j0 k a0 bt315.1 bt315.2 true) else (if bt315.2 = (a0.size : Int) then (incipitref10_Take.j0 k a0 bt315.1 bt315.2 true) else (if 0 ≤ bt315.2 then (if bt315.2 < (a0.size : Int) then (incipitref10_Take.j0 k a0 bt315.1 bt315.2 ((bt a0 bt315.2) != 58)) else (none)) else (none))))) = some (r1,r2,r3,r4) := h
 clear h
 replace H := Option.bind_eq_some_iff.mp H
 obtain ⟨⟨t315,t316⟩,A20,H⟩ := H
 (try dsimp only at H)
 have A2 := Aside0.mk A20
 clear A20
 have HC3 := Aside0.mk H
 clear H
 go_enter Tryz.func16,Tryz.ntmps16
 go_upto_region 2 with (first | ((with_reducible refine gate_dst (N := 2) rfl ?_);(try (refine gate_guard (by rfl) ?_;dsimp only));refine box_event ?hg (N := 2) ?hd (cs := #[.string (⟨#[]⟩ : ByteArray),.string (⟨#[]⟩ : ByteArray),.string (⟨#[]⟩ : ByteArray)]) (t := 26) ?hr ?_;(case hd => rfl);(case hg => rfl);(case hr => first | (go_simp;done) | (go_simp;rfl));intro gb314 hg w4 hbox hb;have n0_ := Aside0.mk (below_step HB.out hb);have n1_ := Aside0.mk (hbox);have n2_ := Aside0.mk ((by rw [hg];exact (below_size HB.out) : w.heap.size ≤ gb314));have n3_ := Aside0.mk ((by rw [hg];exact (below_size HB.out) : w.heap.size ≤ gb314));clear HB;have HB := n0_;have BK314 := n1_;have GW314 := n2_;have GE314 := n3_;clear n0_ n1_ n2_ n3_;clear hb hbox hg) | ((with_reducible refine gate_callee (f := 32) rfl ?_);refine goesL_ (some 16) rfl rfl Tryz.func32 (by kernel_rfl) rfl #[.string a0] rfl (by (try simp only [List.map_toArray,List.map_cons,List.map_nil]);try rfl) ?_;(with_reducible refine (incipitref09_Label.calls k a0 t315 t316 _ A2.out).mono ?_);rintro e w5 ⟨rfl,hb⟩;refine ⟨_,rfl,?_⟩;have n0_ := Aside0.mk (blk_below (g := gb314) (o := .cells #[.string (⟨#[]⟩ : ByteArray),.string (⟨#[]⟩ : ByteArray),.string (⟨#[]⟩ : ByteArray)] 26 (0,0)) (by (with_reducible repeat (first | refine blk_drewN ?_ _ | refine blk_drew ?_ | refine blk_alloc ?_ _));exact BK314.out) hb);have n1_ := Aside0.mk (below_step (by repeat (first | (with_reducible first | exact HB.out | apply below_alloc | apply pw_below_drewN | apply below_drew1 | refine below_set ?_ GE314.out) | exact HB.out)) hb);clear BK314;clear HB;have BK314 := n0_;have HB := n1_;clear n0_ n1_))
 (try simp only [Act.put,List.setIfInBounds_toArray,List.set_cons_zero,List.set_cons_succ])
 go_cut [32] (fun v32 wc => ∃ (kq : Nat) (x32_2 : Bool),v32 = .bool x32_2 ∧ Aside0 (incipitref10_Take.j0 kq a0 t315 t316 x32_2 = some (r1,r2,r3,r4)) ∧ Aside0 (kq ≤ k) ∧ Aside0 (wc.heap[gb314]? = some (.cells #[.string (⟨#[]⟩ : ByteArray),.string (⟨#[]⟩ : ByteArray),.string (⟨#[]⟩ : ByteArray)] 26 (0,0))) ∧ Aside0 (Below w.heap.size w wc))
 case first =>
  have H := HC3.out
  clear HC3
  by_cases c6 : t316 = 0
  ·rw [if_pos c6] at H
   have c6b0 : (t316 == 0) = true := beq_iff_eq.mpr c6
   have c6b1 : (t316 != 0) = false := bne_eq_false_iff_eq.mpr c6
   clear c6
   (first | rw [c6b0] | (simp only [i64_w,i32_w];rw [c6b0]) | skip)
   have H' := Aside0.mk H
   clear H
   go_wp2
   go_meet
   case rel => exact ⟨_,(true),(by first | rfl | (simp;done) | (simp [*];done)),H',⟨by first | omega | exact Nat.le_refl _⟩,⟨by (with_reducible repeat (first | refine blk_drewN ?_ _ | refine blk_drew ?_ | refine blk_alloc ?_ _));exact BK314.out⟩,⟨by repeat (first | (with_reducible first | exact HB.out | apply below_alloc | apply pw_below_drewN | apply below_drew1 | refine below_set ?_ GE314.out) | exact HB.out)⟩⟩
  ·rw [if_neg c6] at H
   have c6b0 : (t316 == 0) = false := beq_eq_false_iff_ne.mpr c6
   have c6b1 : (t316 != 0) = true := bne_iff_ne.mpr c6
   (first | rw [c6b0] | (simp only [i64_w,i32_w];rw [c6b0]) | skip)
   by_cases c7 : t316 = (a0.size : Int)
   ·rw [if_pos c7] at H
    have c7b0 : (t316 == (a0.size : Int)) = true := beq_iff_eq.mpr c7
    have c7b1 : (t316 != (a0.size : Int)) = false := bne_eq_false_iff_eq.mpr c7
    clear c7
    have H' := Aside0.mk H
    clear H
    go_wp2
    go_meet
    case rel => exact ⟨_,(true),(by first | rfl | (simp;done) | (simp [*];done)),H',⟨by first | omega | exact Nat.le_refl _⟩,⟨by (with_reducible repeat (first | refine blk_drewN ?_ _ | refine blk_drew ?_ | refine blk_alloc ?_ _));exact BK314.out⟩,⟨by repeat (first | (with_reducible first | exact HB.out | apply below_alloc | apply pw_below_drewN | apply below_drew1 | refine below_set ?_ GE314.out) | exact HB.out)⟩⟩
   ·rw [if_neg c7] at H
    have c7b0 : (t316 == (a0.size : Int)) = false := beq_eq_false_iff_ne.mpr c7
    have c7b1 : (t316 != (a0.size : Int)) = true := bne_iff_ne.mpr c7
    by_cases c8 : 0 ≤ t316
    ·rw [if_pos c8] at H
     have c8b0 : decide (0 ≤ t316) = true := decide_eq_true c8
     clear c8
     by_cases c9 : t316 < (a0.size : Int)
     ·rw [if_pos c9] at H
      have c9b0 : decide (t316 < (a0.size : Int)) = true := decide_eq_true c9
      clear c9
      have H' := Aside0.mk H
      clear H
      have p10 : 0 ≤ (t316 : Int) := of_decide_eq_true (by first | (with_reducible assumption) | assumption)
      have q10 : t316 < (a0.size : Int) := of_decide_eq_true (by first | (with_reducible assumption) | assumption)
      have hx10 := bt_at a0 t316
      replace p10 := eq_true p10
      replace q10 := eq_true q10
      go_wp2
      go_meet
      case rel => exact ⟨_,(((bt a0 t316) != 58)),(by first | rfl | (simp;done) | (simp [*];done)),H',⟨by first | omega | exact Nat.le_refl _⟩,⟨by (with_reducible repeat (first | refine blk_drewN ?_ _ | refine blk_drew ?_ | refine blk_alloc ?_ _));exact BK314.out⟩,⟨by repeat (first | (with_reducible first | exact HB.out | apply below_alloc | apply pw_below_drewN | apply below_drew1 | refine below_set ?_ GE314.out) | exact HB.out)⟩⟩
     ·rw [if_neg c9] at H
      exact absurd H (by simp)
    ·rw [if_neg c8] at H
     exact absurd H (by simp)
 case rest =>
  clear HC3
  try clear c1
  try clear p1
  try clear q1
  try clear hx1
  try clear p2
  try clear c3
  try clear c6
  try clear c6b0
  try clear c6b1
  try clear c7
  try clear c7b0
  try clear c7b1
  try clear c8
  try clear c8b0
  try clear c9
  try clear c9b0
  try clear p10
  try clear q10
  try clear hx10
  try clear p10
  try clear q10
  obtain ⟨kq,x32_2,rfl,HA,HJ2,BK314,HB⟩ := hcut
  cases kq with
  | zero => exact absurd HA.out (by simp [incipitref10_Take.j0])
  | succ kj2 =>
   have H := HA.out
   clear HA
   simp only [incipitref10_Take.j0] at H
   by_cases c11 : x32_2 = true
   ·subst c11
    have H1 : (some ((⟨#[]⟩ : ByteArray),(⟨#[]⟩ : ByteArray),(⟨#[]⟩ : ByteArray),0)) = some (r1,r2,r3,r4) := by rw [if_pos rfl] at H;exact H
    clear H
    have H := H1
    clear H1
    simp only [Option.some.injEq,Prod.mk.injEq] at H
    obtain ⟨rfl,rfl,rfl,rfl⟩ := H
    have hcz12_0 : wc.cell? ⟨gb314,0,none⟩ = some (.string (⟨#[]⟩ : ByteArray)) := (blk_cell BK314.out 0).trans rfl
    have hcz12_1 : wc.cell? ⟨gb314,1,none⟩ = some (.string (⟨#[]⟩ : ByteArray)) := (blk_cell BK314.out 1).trans rfl
    have hcz12_2 : wc.cell? ⟨gb314,2,none⟩ = some (.string (⟨#[]⟩ : ByteArray)) := (blk_cell BK314.out 2).trans rfl
    have hfz12_0 := blk_frozen BK314.out 0
    have hfz12_1 := blk_frozen BK314.out 1
    have hfz12_2 := blk_frozen BK314.out 2
    go_wp2
    refine bodyPost_ret (results_ct rfl _ _ gb314 26 #[.string (⟨#[]⟩ : ByteArray),.string (⟨#[]⟩ : ByteArray),.string (⟨#[]⟩ : ByteArray)] (0,0) _ rfl (by (with_reducible repeat (first | refine blk_drewN ?_ _ | refine blk_drew ?_ | refine blk_alloc ?_ _));refine blk_put (cs := #[.string (⟨#[]⟩ : ByteArray),.string (⟨#[]⟩ : ByteArray),.string (⟨#[]⟩ : ByteArray)]) ?_ 2 _ rfl;(with_reducible repeat (first | refine blk_drewN ?_ _ | refine blk_drew ?_ | refine blk_alloc ?_ _));refine blk_put (cs := #[.string (⟨#[]⟩ : ByteArray),.string (⟨#[]⟩ : ByteArray),.string (⟨#[]⟩ : ByteArray)]) ?_ 1 _ rfl;(with_reducible repeat (first | refine blk_drewN ?_ _ | refine blk_drew ?_ | refine blk_alloc ?_ _));refine blk_put (cs := #[.string (⟨#[]⟩ : ByteArray),.string (⟨#[]⟩ : ByteArray),.string (⟨#[]⟩ : ByteArray)]) ?_ 0 _ rfl;(with_reducible repeat (first | refine blk_drewN ?_ _ | refine blk_drew ?_ | refine blk_alloc ?_ _));exact BK314.out) Tryz.underlying26 rfl (by kernel_rfl)) rfl ?_
    exact ⟨by first | rfl | (simp [errW_none,errW_some] <;> rfl) | (simp [*,errW_none,errW_some] <;> rfl),by repeat (first | (with_reducible first | exact HB.out | apply below_alloc | apply pw_below_drewN | apply below_drew1 | refine below_set ?_ GE314.out) | exact HB.out)⟩
   ·replace c11 := Bool.eq_false_iff.mpr c11
    subst c11
    have H1 : (if 0 ≤ (wrap64 (t316 + 1)) then (if (wrap64 (t316 + 1)) ≤ (a0.size : Int) then ((incipitref10_gap.f kj2 (a0.extract ((wrap64 (t316 + 1)) : Int).toNat a0.size)).bind fun t317 => (if t317 < 0 then (some ((⟨#[]⟩ : ByteArray),(⟨#[]⟩ : ByteArray),(⟨#[]⟩ : ByteArray),0)) else (if 0 ≤ (wrap64 ((wrap64 (t316 + 1)) + t317)) then (if (wrap64 ((wrap64 (t316 + 1)) + t317)) ≤ (a0.size : Int) then ((incipitref09_Dest.f kj2 (a0.extract ((wrap64 ((wrap64 (t316 + 1)) + t317)) : Int).toNat a0.size)).bind fun bt318 => (if bt318.2.2 = true then ((incipitref03_Label.f kj2 t315).bind fun t321 => (if 0 ≤ (wrap64 ((wrap64 ((wrap64 (t316 + 1)) + t317)) + bt318.2.1)) then (if (wrap64 ((wrap64 ((wrap64 (t316 + 1)) + t317)) + bt318.2.1)) ≤ (a0.size : Int) then ((incipitref10_titled.f kj2 (a0.extract ((wrap64 ((wrap64 ((wrap64 (t316 + 1)) + t317)) + bt318.2.1)) : Int).toNat a0.size)).bind fun bt323 => (if bt323.2 ≥ 0 then (some (t321,bt318.1,bt323.1,wrap64 ((wrap64 ((wrap64 ((wrap64 (t316 + 1)) + t317)) + bt318.2.1)) + bt323.2))) else ((incipitref10_end.f kj2 (a0.extract ((wrap64 ((wrap64 ((wrap64 (t316 + 1)) + t317)) + bt318.2.1)) : Int).toNat a0.size)).bind fun t325 => (if t325 < 0 then (some ((⟨#[]⟩ : ByteArray),(⟨#[]⟩ : ByteArray),(⟨#[]⟩ : ByteArray),0)) else (some (t321,bt318.1,(⟨#[]⟩ : ByteArray),wrap64 ((wrap64 ((wrap64 ((wrap64 (t316 + 1)) + t317)) + bt318.2.1)) + t325))))))) else (none)) else (none))) else (some ((⟨#[]⟩ : ByteArray),(⟨#[]⟩ : ByteArray),(⟨#[]⟩ : ByteArray),0)))) else (none)) else (none)))) else (none)) else (none)) = some (r1,r2,r3,r4) := by rw [if_neg (show ¬ (false = true) by decide)] at H;exact H
    clear H
    have H := H1
    clear H1
    obtain ⟨ji13,hji13⟩ : ∃ j_ : Int,(wrap64 (t316 + 1)) = j_ := ⟨_,rfl⟩
    replace H : (if 0 ≤ (ji13) then (if (ji13) ≤ (a0.size : Int) then ((incipitref10_gap.f kj2 (a0.extract ((ji13) : Int).toNat a0.size)).bind fun t317 => (if t317 < 0 then (some ((⟨#[]⟩ : ByteArray),(⟨#[]⟩ : ByteArray),(⟨#[]⟩ : ByteArray),0)) else (if 0 ≤ (wrap64 ((ji13) + t317)) then (if (wrap64 ((ji13) + t317)) ≤ (a0.size : Int) then ((incipitref09_Dest.f kj2 (a0.extract ((wrap64 ((ji13) + t317)) : Int).toNat a0.size)).bind fun bt318 => (if bt318.2.2 = true then ((incipitref03_Label.f kj2 t315).bind fun t321 => (if 0 ≤ (wrap64 ((wrap64 ((ji13) + t317)) + bt318.2.1)) then (if (wrap64 ((wrap64 ((ji13) + t317)) + bt318.2.1)) ≤ (a0.size : Int) then ((incipitref10_titled.f kj2 (a0.extract ((wrap64 ((wrap64 ((ji13) + t317)) + bt318.2.1)) : Int).toNat a0.size)).bind fun bt323 => (if bt323.2 ≥ 0 then (some (t321,bt318.1,bt323.1,wrap64 ((wrap64 ((wrap64 ((ji13) + t317)) + bt318.2.1)) + bt323.2))) else ((incipitref10_end.f kj2 (a0.extract ((wrap64 ((wrap64 ((ji13) + t317)) + bt318.2.1)) : Int).toNat a0.size)).bind fun t325 => (if t325 < 0 then (some ((⟨#[]⟩ : ByteArray),(⟨#[]⟩ : ByteArray),(⟨#[]⟩ : ByteArray),0)) else (some (t321,bt318.1,(⟨#[]⟩ : ByteArray),wrap64 ((wrap64 ((wrap64 ((ji13) + t317)) + bt318.2.1)) + t325))))))) else (none)) else (none))) else (some ((⟨#[]⟩ : ByteArray),(⟨#[]⟩ : ByteArray),(⟨#[]⟩ : ByteArray),0)))) else (none)) else (none)))) else (none)) else (none)) = some (r1,r2,r3,r4) := by first | (rw [hji13] at H;exact H) | (simp only [hji13] at H ⊢;exact H)
    have hji13w : (IntKind.i64.wrap (t316 + 1)) = ji13 := (i64_w _).trans hji13
    by_cases c14 : 0 ≤ (ji13)
    ·rw [if_pos c14] at H
     have c14b0 := eq_true c14
     have c14b1 : decide (0 ≤ (ji13)) = true := decide_eq_true c14
     clear c14
     by_cases c15 : (ji13) ≤ (a0.size : Int)
     ·rw [if_pos c15] at H
      have c15b0 := eq_true c15
      have c15b1 : decide ((ji13) ≤ (a0.size : Int)) = true := decide_eq_true c15
      clear c15
      replace H := Option.bind_eq_some_iff.mp H
      obtain ⟨t317,A160,H⟩ := H
      (try dsimp only at H)
      have A16 := Aside0.mk A160
      clear A160
      by_cases c17 : t317 < 0
      ·rw [if_pos c17] at H
       have c17b0 : decide (t317 < 0) = true := decide_eq_true c17
       clear c17
       simp only [Option.some.injEq,Prod.mk.injEq] at H
       obtain ⟨rfl,rfl,rfl,rfl⟩ := H
       go_wp2_with (first | ((with_reducible refine gate_callee (f := 33) rfl ?_);refine goesL_ (some 39) rfl rfl Tryz.func33 (by kernel_rfl) rfl #[.string (a0.extract ((ji13) : Int).toNat a0.size)] rfl (by (try simp only [List.map_toArray,List.map_cons,List.map_nil]);first | done | (simp only [hji13];rfl) | rfl | (simp only [List.length_drop,List.length_take];rfl)) ?_;(with_reducible refine (incipitref10_gap.calls kj2 (a0.extract ((ji13) : Int).toNat a0.size) t317 _ A16.out).mono ?_);rintro e w' ⟨rfl,⟨nd,rfl⟩⟩;refine ⟨_,rfl,?_⟩;(try (rw [drewN_self wc];generalize hq_ : World.drewN wc _ = wc;have n0_ : Aside0 (wc.heap[gb314]? = some (.cells #[.string (⟨#[]⟩ : ByteArray),.string (⟨#[]⟩ : ByteArray),.string (⟨#[]⟩ : ByteArray)] 26 (0,0))) := ⟨by rw [← hq_];exact (by (with_reducible repeat (first | refine blk_drewN ?_ _ | refine blk_drew ?_ | refine blk_alloc ?_ _));exact BK314.out)⟩;have n1_ : Aside0 (Below w.heap.size w wc) := ⟨by rw [← hq_];exact (by repeat (first | (with_reducible first | exact HB.out | apply below_alloc | apply pw_below_drewN | apply below_drew1 | refine below_set ?_ GE314.out) | exact HB.out))⟩;clear BK314 HB hq_;have BK314 := n0_;have HB := n1_;clear n0_ n1_));have hcz18_0 : wc.cell? ⟨gb314,0,none⟩ = some (.string (⟨#[]⟩ : ByteArray)) := (blk_cell BK314.out 0).trans rfl;have hcz18_1 : wc.cell? ⟨gb314,1,none⟩ = some (.string (⟨#[]⟩ : ByteArray)) := (blk_cell BK314.out 1).trans rfl;have hcz18_2 : wc.cell? ⟨gb314,2,none⟩ = some (.string (⟨#[]⟩ : ByteArray)) := (blk_cell BK314.out 2).trans rfl;have hfz18_0 := blk_frozen BK314.out 0;have hfz18_1 := blk_frozen BK314.out 1;have hfz18_2 := blk_frozen BK314.out 2))
       refine bodyPost_ret (results_ct rfl _ _ gb314 26 #[.string (⟨#[]⟩ : ByteArray),.string (⟨#[]⟩ : ByteArray),.string (⟨#[]⟩ : ByteArray)] (0,0) _ rfl (by (with_reducible repeat (first | refine blk_drewN ?_ _ | refine blk_drew ?_ | refine blk_alloc ?_ _));refine blk_put (cs := #[.string (⟨#[]⟩ : ByteArray),.string (⟨#[]⟩ : ByteArray),.string (⟨#[]⟩ : ByteArray)]) ?_ 2 _ rfl;(with_reducible repeat (first | refine blk_drewN ?_ _ | refine blk_drew ?_ | refine blk_alloc ?_ _));refine blk_put (cs := #[.string (⟨#[]⟩ : ByteArray),.string (⟨#[]⟩ : ByteArray),.string (⟨#[]⟩ : ByteArray)]) ?_ 1 _ rfl;(with_reducible repeat (first | refine blk_drewN ?_ _ | refine blk_drew ?_ | refine blk_alloc ?_ _));refine blk_put (cs := #[.string (⟨#[]⟩ : ByteArray),.string (⟨#[]⟩ : ByteArray),.string (⟨#[]⟩ : ByteArray)]) ?_ 0 _ rfl;(with_reducible repeat (first | refine blk_drewN ?_ _ | refine blk_drew ?_ | refine blk_alloc ?_ _));exact BK314.out) Tryz.underlying26 rfl (by kernel_rfl)) rfl ?_
       exact ⟨by first | rfl | (simp [errW_none,errW_some] <;> rfl) | (simp only [← hji13];first | rfl | (simp [errW_none,errW_some] <;> rfl)) | (simp [*,errW_none,errW_some] <;> rfl),by repeat (first | (with_reducible first | exact HB.out | apply below_alloc | apply pw_below_drewN | apply below_drew1 | refine below_set ?_ GE314.out) | exact HB.out)⟩
      ·rw [if_neg c17] at H
       have c17b0 : decide (t317 < 0) = false := decide_eq_false c17
       clear c17
       obtain ⟨ji19,hji19⟩ : ∃ j_ : Int,(wrap64 ((ji13) + t317)) = j_ := ⟨_,rfl⟩
       replace H : (if 0 ≤ (ji19) then (if (ji19) ≤ (a0.size : Int) then ((incipitref09_Dest.f kj2 (a0.extract ((ji19) : Int).toNat a0.size)).bind fun bt318 => (if bt318.2.2 = true then ((incipitref03_Label.f kj2 t315).bind fun t321 => (if 0 ≤ (wrap64 ((ji19) + bt318.2.1)) then (if (wrap64 ((ji19) + bt318.2.1)) ≤ (a0.size : Int) then ((incipitref10_titled.f kj2 (a0.extract ((wrap64 ((ji19) + bt318.2.1)) : Int).toNat a0.size)).bind fun bt323 => (if bt323.2 ≥ 0 then (some (t321,bt318.1,bt323.1,wrap64 ((wrap64 ((ji19) + bt318.2.1)) + bt323.2))) else ((incipitref10_end.f kj2 (a0.extract ((wrap64 ((ji19) + bt318.2.1)) : Int).toNat a0.size)).bind fun t325 => (if t325 < 0 then (some ((⟨#[]⟩ : ByteArray),(⟨#[]⟩ : ByteArray),(⟨#[]⟩ : ByteArray),0)) else (some (t321,bt318.1,(⟨#[]⟩ : ByteArray),wrap64 ((wrap64 ((ji19) + bt318.2.1)) + t325))))))) else (none)) else (none))) else (some ((⟨#[]⟩ : ByteArray),(⟨#[]⟩ : ByteArray),(⟨#[]⟩ : ByteArray),0)))) else (none)) else (none)) = some (r1,r2,r3,r4) := by first | (rw [hji19] at H;exact H) | (simp only [hji19] at H ⊢;exact H)
       (try rw [hji19] at A16)
       have hji19w : (IntKind.i64.wrap ((ji13) + t317)) = ji19 := (i64_w _).trans hji19
       by_cases c20 : 0 ≤ (ji19)
       ·rw [if_pos c20] at H
        have c20b0 := eq_true c20
        have c20b1 : decide (0 ≤ (ji19)) = true := decide_eq_true c20
        clear c20
        by_cases c21 : (ji19) ≤ (a0.size : Int)
        ·rw [if_pos c21] at H
         have c21b0 := eq_true c21
         have c21b1 : decide ((ji19) ≤ (a0.size : Int)) = true := decide_eq_true c21
         clear c21
         replace H := Option.bind_eq_some_iff.mp H
         obtain ⟨⟨t318,t319,t320⟩,A220,H⟩ := H
         (try dsimp only at H)
         have A22 := Aside0.mk A220
         clear A220
         by_cases c23 : t320 = true
         ·subst c23
          have H1 : ((incipitref03_Label.f kj2 t315).bind fun t321 => (if 0 ≤ (wrap64 ((ji19) + t319)) then (if (wrap64 ((ji19) + t319)) ≤ (a0.size : Int) then ((incipitref10_titled.f kj2 (a0.extract ((wrap64 ((ji19) + t319)) : Int).toNat a0.size)).bind fun bt323 => (if bt323.2 ≥ 0 then (some (t321,t318,bt323.1,wrap64 ((wrap64 ((ji19) + t319)) + bt323.2))) else ((incipitref10_end.f kj2 (a0.extract ((wrap64 ((ji19) + t319)) : Int).toNat a0.size)).bind fun t325 => (if t325 < 0 then (some ((⟨#[]⟩ : ByteArray),(⟨#[]⟩ : ByteArray),(⟨#[]⟩ : ByteArray),0)) else (some (t321,t318,(⟨#[]⟩ : ByteArray),wrap64 ((wrap64 ((ji19) + t319)) + t325))))))) else (none)) else (none))) = some (r1,r2,r3,r4) := by rw [if_pos rfl] at H;exact H
          clear H
          have H := H1
          clear H1
          replace H := Option.bind_eq_some_iff.mp H
          obtain ⟨t321,A240,H⟩ := H
          (try dsimp only at H)
          have A24 := Aside0.mk A240
          clear A240
          obtain ⟨ji25,hji25⟩ : ∃ j_ : Int,(wrap64 ((ji19) + t319)) = j_ := ⟨_,rfl⟩
          replace H : (if 0 ≤ (ji25) then (if (ji25) ≤ (a0.size : Int) then ((incipitref10_titled.f kj2 (a0.extract ((ji25) : Int).toNat a0.size)).bind fun bt323 => (if bt323.2 ≥ 0 then (some (t321,t318,bt323.1,wrap64 ((ji25) + bt323.2))) else ((incipitref10_end.f kj2 (a0.extract ((ji25) : Int).toNat a0.size)).bind fun t325 => (if t325 < 0 then (some ((⟨#[]⟩ : ByteArray),(⟨#[]⟩ : ByteArray),(⟨#[]⟩ : ByteArray),0)) else (some (t321,t318,(⟨#[]⟩ : ByteArray),wrap64 ((ji25) + t325))))))) else (none)) else (none)) = some (r1,r2,r3,r4) := by first | (rw [hji25] at H;exact H) | (simp only [hji25] at H ⊢;exact H)
          (try rw [hji25] at A16)
          (try rw [hji25] at A22)
          (try rw [hji25] at A24)
          have hji25w : (IntKind.i64.wrap ((ji19) + t319)) = ji25 := (i64_w _).trans hji25
          by_cases c26 : 0 ≤ (ji25)
          ·rw [if_pos c26] at H
           have c26b0 := eq_true c26
           have c26b1 : decide (0 ≤ (ji25)) = true := decide_eq_true c26
           clear c26
           by_cases c27 : (ji25) ≤ (a0.size : Int)
           ·rw [if_pos c27] at H
            have c27b0 := eq_true c27
            have c27b1 : decide ((ji25) ≤ (a0.size : Int)) = true := decide_eq_true c27
            clear c27
            replace H := Option.bind_eq_some_iff.mp H
            obtain ⟨⟨t323,t324⟩,A280,H⟩ := H
            (try dsimp only at H)
            have A28 := Aside0.mk A280
            clear A280
            by_cases c29 : t324 ≥ 0
            ·rw [if_pos c29] at H
             have c29b0 : decide (0 ≤ t324) = true := decide_eq_true c29
             clear c29
             simp only [Option.some.injEq,Prod.mk.injEq] at H
             obtain ⟨rfl,rfl,rfl,rfl⟩ := H
             go_wp2_with (first | ((with_reducible refine gate_callee (f := 33) rfl ?_);refine goesL_ (some 39) rfl rfl Tryz.func33 (by kernel_rfl) rfl #[.string (a0.extract ((ji13) : Int).toNat a0.size)] rfl (by (try simp only [List.map_toArray,List.map_cons,List.map_nil]);first | done | (simp only [hji13];rfl) | rfl | (simp only [List.length_drop,List.length_take];rfl)) ?_;(with_reducible refine (incipitref10_gap.calls kj2 (a0.extract ((ji13) : Int).toNat a0.size) t317 _ A16.out).mono ?_);rintro e w' ⟨rfl,⟨nd,rfl⟩⟩;refine ⟨_,rfl,?_⟩;(try (rw [drewN_self wc];generalize hq_ : World.drewN wc _ = wc;have n0_ : Aside0 (wc.heap[gb314]? = some (.cells #[.string (⟨#[]⟩ : ByteArray),.string (⟨#[]⟩ : ByteArray),.string (⟨#[]⟩ : ByteArray)] 26 (0,0))) := ⟨by rw [← hq_];exact (by (with_reducible repeat (first | refine blk_drewN ?_ _ | refine blk_drew ?_ | refine blk_alloc ?_ _));exact BK314.out)⟩;have n1_ : Aside0 (Below w.heap.size w wc) := ⟨by rw [← hq_];exact (by repeat (first | (with_reducible first | exact HB.out | apply below_alloc | apply pw_below_drewN | apply below_drew1 | refine below_set ?_ GE314.out) | exact HB.out))⟩;clear BK314 HB hq_;have BK314 := n0_;have HB := n1_;clear n0_ n1_))) | ((with_reducible refine gate_callee (f := 34) rfl ?_);refine goesL_ (some 50) rfl rfl Tryz.func34 (by kernel_rfl) rfl #[.string (a0.extract ((ji19) : Int).toNat a0.size)] rfl (by (try simp only [List.map_toArray,List.map_cons,List.map_nil]);first | done | (simp only [hji19];rfl) | rfl | (simp only [List.length_drop,List.length_take];rfl)) ?_;(with_reducible refine (incipitref09_Dest.calls kj2 (a0.extract ((ji19) : Int).toNat a0.size) t318 t319 true _ A22.out).mono ?_);rintro e w30 ⟨rfl,hb⟩;refine ⟨_,rfl,?_⟩;have n0_ := Aside0.mk (blk_below (g := gb314) (o := .cells #[.string (⟨#[]⟩ : ByteArray),.string (⟨#[]⟩ : ByteArray),.string (⟨#[]⟩ : ByteArray)] 26 (0,0)) (by (with_reducible repeat (first | refine blk_drewN ?_ _ | refine blk_drew ?_ | refine blk_alloc ?_ _));exact BK314.out) hb);have n1_ := Aside0.mk (below_step (by repeat (first | (with_reducible first | exact HB.out | apply below_alloc | apply pw_below_drewN | apply below_drew1 | refine below_set ?_ GE314.out) | exact HB.out)) hb);clear BK314;clear HB;have BK314 := n0_;have HB := n1_;clear n0_ n1_) | ((with_reducible refine gate_callee (f := 22) rfl ?_);refine goesL_ (some 61) rfl rfl Tryz.func22 (by kernel_rfl) rfl #[.string t315] rfl (by (try simp only [List.map_toArray,List.map_cons,List.map_nil]);try rfl) ?_;(with_reducible refine (incipitref03_Label.calls kj2 t315 t321 _ A24.out).mono ?_);rintro e w31 ⟨rfl,hb⟩;refine ⟨_,rfl,?_⟩;have n0_ := Aside0.mk (blk_below (g := gb314) (o := .cells #[.string (⟨#[]⟩ : ByteArray),.string (⟨#[]⟩ : ByteArray),.string (⟨#[]⟩ : ByteArray)] 26 (0,0)) (by (with_reducible repeat (first | refine blk_drewN ?_ _ | refine blk_drew ?_ | refine blk_alloc ?_ _));exact BK314.out) hb);have n1_ := Aside0.mk (below_step (by repeat (first | (with_reducible first | exact HB.out | apply below_alloc | apply pw_below_drewN | apply below_drew1 | refine below_set ?_ GE314.out) | exact HB.out)) hb);clear BK314;clear HB;have BK314 := n0_;have HB := n1_;clear n0_ n1_) | ((with_reducible refine gate_dst (N := 10) rfl ?_);(try (refine gate_guard (by rfl) ?_;dsimp only));refine box_event ?hg (N := 10) ?hd (cs := #[.string (⟨#[]⟩ : ByteArray),.string (⟨#[]⟩ : ByteArray),.string (⟨#[]⟩ : ByteArray)]) (t := 26) ?hr ?_;(case hd => rfl);(case hg => rfl);(case hr => first | (go_simp;done) | (go_simp;rfl));intro gb322 hg w32 hbox hb;have n0_ := Aside0.mk (blk_below (g := gb314) (o := .cells #[.string (⟨#[]⟩ : ByteArray),.string (⟨#[]⟩ : ByteArray),.string (⟨#[]⟩ : ByteArray)] 26 (0,0)) (by (with_reducible repeat (first | refine blk_drewN ?_ _ | refine blk_drew ?_ | refine blk_alloc ?_ _));exact BK314.out) hb);have n1_ := Aside0.mk (below_step (by repeat (first | (with_reducible first | exact HB.out | apply below_alloc | apply pw_below_drewN | apply below_drew1 | refine below_set ?_ GE314.out) | exact HB.out)) hb);have n2_ := Aside0.mk (hbox);have n3_ := Aside0.mk ((by rw [hg];exact (below_size (by repeat (first | (with_reducible first | exact HB.out | apply below_alloc | apply pw_below_drewN | apply below_drew1 | refine below_set ?_ GE314.out) | exact HB.out))) : w.heap.size ≤ gb322));have n4_ := Aside0.mk ((by rw [hg];exact (below_size (by repeat (first | (with_reducible first | exact HB.out | apply below_alloc | apply pw_below_drewN | apply below_drew1 | refine below_set ?_ GE314.out) | exact HB.out))) : w.heap.size ≤ gb322));have n5_ := Aside0.mk ((by rw [hg];exact Nat.ne_of_lt (blk_lt (g := gb314) (o := .cells #[.string (⟨#[]⟩ : ByteArray),.string (⟨#[]⟩ : ByteArray),.string (⟨#[]⟩ : ByteArray)] 26 (0,0)) (by (with_reducible repeat (first | refine blk_drewN ?_ _ | refine blk_drew ?_ | refine blk_alloc ?_ _));exact BK314.out)) : gb314 ≠ gb322));have n6_ := Aside0.mk ((by rw [hg];exact Nat.ne_of_gt (blk_lt (g := gb314) (o := .cells #[.string (⟨#[]⟩ : ByteArray),.string (⟨#[]⟩ : ByteArray),.string (⟨#[]⟩ : ByteArray)] 26 (0,0)) (by (with_reducible repeat (first | refine blk_drewN ?_ _ | refine blk_drew ?_ | refine blk_alloc ?_ _));exact BK314.out)) : gb322 ≠ gb314));clear BK314;clear HB;have BK314 := n0_;have HB := n1_;have BK322 := n2_;have GW322 := n3_;have GE322 := n4_;have NB314_322 := n5_;have NB322_314 := n6_;clear n0_ n1_ n2_ n3_ n4_ n5_ n6_;clear hb hbox hg;have hnb33 := NB322_314.out;have hnc33 := NB314_322.out;have hcz34_0 : w32.cell? ⟨gb322,0,none⟩ = some (.string (⟨#[]⟩ : ByteArray)) := (blk_cell BK322.out 0).trans rfl;have hcz34_1 : w32.cell? ⟨gb322,1,none⟩ = some (.string (⟨#[]⟩ : ByteArray)) := (blk_cell BK322.out 1).trans rfl;have hcz34_2 : w32.cell? ⟨gb322,2,none⟩ = some (.string (⟨#[]⟩ : ByteArray)) := (blk_cell BK322.out 2).trans rfl;have hfz34_0 := blk_frozen BK322.out 0;have hfz34_1 := blk_frozen BK322.out 1;have hfz34_2 := blk_frozen BK322.out 2) | ((with_reducible refine gate_callee (f := 35) rfl ?_);refine goesL_ (some 68) rfl rfl Tryz.func35 (by kernel_rfl) rfl #[.string (a0.extract ((ji25) : Int).toNat a0.size)] rfl (by (try simp only [List.map_toArray,List.map_cons,List.map_nil]);first | done | (simp only [hji25];rfl) | rfl | (simp only [List.length_drop,List.length_take];rfl)) ?_;(with_reducible refine (incipitref10_titled.calls kj2 (a0.extract ((ji25) : Int).toNat a0.size) t323 t324 _ A28.out).mono ?_);rintro e w35 ⟨rfl,hb⟩;refine ⟨_,rfl,?_⟩;have n0_ := Aside0.mk (blk_below (g := gb314) (o := .cells #[.string (⟨#[]⟩ : ByteArray),.string (⟨#[]⟩ : ByteArray),.string (⟨#[]⟩ : ByteArray)] 26 (0,0)) (by (with_reducible repeat (first | refine blk_drewN ?_ _ | refine blk_drew ?_ | refine blk_alloc ?_ _));refine blk_far ?_ NB314_322.out _;(with_reducible repeat (first | refine blk_drewN ?_ _ | refine blk_drew ?_ | refine blk_alloc ?_ _));refine blk_far ?_ NB314_322.out _;(with_reducible repeat (first | refine blk_drewN ?_ _ | refine blk_drew ?_ | refine blk_alloc ?_ _));refine blk_far ?_ NB314_322.out _;(with_reducible repeat (first | refine blk_drewN ?_ _ | refine blk_drew ?_ | refine blk_alloc ?_ _));exact BK314.out) hb);have n1_ := Aside0.mk (blk_below (g := gb322) (o := .cells #[.string t321,.string t318,.string (⟨#[]⟩ : ByteArray)] 26 (0,0)) (by (with_reducible repeat (first | refine blk_drewN ?_ _ | refine blk_drew ?_ | refine blk_alloc ?_ _));refine blk_put (cs := #[.string t321,.string t318,.string (⟨#[]⟩ : ByteArray)]) ?_ 2 _ rfl;(with_reducible repeat (first | refine blk_drewN ?_ _ | refine blk_drew ?_ | refine blk_alloc ?_ _));refine blk_put (cs := #[.string t321,.string (⟨#[]⟩ : ByteArray),.string (⟨#[]⟩ : ByteArray)]) ?_ 1 _ rfl;(with_reducible repeat (first | refine blk_drewN ?_ _ | refine blk_drew ?_ | refine blk_alloc ?_ _));refine blk_put (cs := #[.string (⟨#[]⟩ : ByteArray),.string (⟨#[]⟩ : ByteArray),.string (⟨#[]⟩ : ByteArray)]) ?_ 0 _ rfl;(with_reducible repeat (first | refine blk_drewN ?_ _ | refine blk_drew ?_ | refine blk_alloc ?_ _));exact BK322.out) hb);have n2_ := Aside0.mk (below_step (by repeat (first | (with_reducible first | exact HB.out | apply below_alloc | apply pw_below_drewN | apply below_drew1 | refine below_set ?_ GE314.out | refine below_set ?_ GE322.out) | exact HB.out)) hb);clear BK314;clear BK322;clear HB;have BK314 := n0_;have BK322 := n1_;have HB := n2_;clear n0_ n1_ n2_;have hcz36_0 : w35.cell? ⟨gb322,0,none⟩ = some (.string t321) := (blk_cell BK322.out 0).trans rfl;have hcz36_1 : w35.cell? ⟨gb322,1,none⟩ = some (.string t318) := (blk_cell BK322.out 1).trans rfl;have hcz36_2 : w35.cell? ⟨gb322,2,none⟩ = some (.string (⟨#[]⟩ : ByteArray)) := (blk_cell BK322.out 2).trans rfl;have hfz36_0 := blk_frozen BK322.out 0;have hfz36_1 := blk_frozen BK322.out 1;have hfz36_2 := blk_frozen BK322.out 2;have hcz37_0 : w35.cell? ⟨gb314,0,none⟩ = some (.string (⟨#[]⟩ : ByteArray)) := (blk_cell BK314.out 0).trans rfl;have hcz37_1 : w35.cell? ⟨gb314,1,none⟩ = some (.string (⟨#[]⟩ : ByteArray)) := (blk_cell BK314.out 1).trans rfl;have hcz37_2 : w35.cell? ⟨gb314,2,none⟩ = some (.string (⟨#[]⟩ : ByteArray)) := (blk_cell BK314.out 2).trans rfl;have hfz37_0 := blk_frozen BK314.out 0;have hfz37_1 := blk_frozen BK314.out 1;have hfz37_2 := blk_frozen BK314.out 2))
             refine bodyPost_ret (results_ct rfl _ _ gb314 26 #[.string t321,.string t318,.string t323] (0,0) _ rfl (by (with_reducible repeat (first | refine blk_drewN ?_ _ | refine blk_drew ?_ | refine blk_alloc ?_ _));refine blk_put (cs := #[.string t321,.string t318,.string (⟨#[]⟩ : ByteArray)]) ?_ 2 _ rfl;(with_reducible repeat (first | refine blk_drewN ?_ _ | refine blk_drew ?_ | refine blk_alloc ?_ _));refine blk_put (cs := #[.string t321,.string (⟨#[]⟩ : ByteArray),.string (⟨#[]⟩ : ByteArray)]) ?_ 1 _ rfl;(with_reducible repeat (first | refine blk_drewN ?_ _ | refine blk_drew ?_ | refine blk_alloc ?_ _));refine blk_put (cs := #[.string (⟨#[]⟩ : ByteArray),.string (⟨#[]⟩ : ByteArray),.string (⟨#[]⟩ : ByteArray)]) ?_ 0 _ rfl;(with_reducible repeat (first | refine blk_drewN ?_ _ | refine blk_drew ?_ | refine blk_alloc ?_ _));refine blk_far ?_ NB314_322.out _;(with_reducible repeat (first | refine blk_drewN ?_ _ | refine blk_drew ?_ | refine blk_alloc ?_ _));exact BK314.out) Tryz.underlying26 rfl (by kernel_rfl)) rfl ?_
             exact ⟨by first | rfl | (simp [errW_none,errW_some] <;> rfl) | (simp only [← hji13,← hji19,← hji25];first | rfl | (simp [errW_none,errW_some] <;> rfl)) | (simp [*,errW_none,errW_some] <;> rfl),by repeat (first | (with_reducible first | exact HB.out | apply below_alloc | apply pw_below_drewN | apply below_drew1 | refine below_set ?_ GE314.out | refine below_set ?_ GE322.out) | exact HB.out)⟩
            ·rw [if_neg c29] at H
             have c29b0 : decide (0 ≤ t324) = false := decide_eq_false c29
             clear c29
             have c38b0 := eq_true (of_decide_eq_true (by first | (with_reducible assumption) | assumption) : 0 ≤ (ji25))
             have c39b0 := eq_true (of_decide_eq_true (by first | (with_reducible assumption) | assumption) : (ji25) ≤ (a0.size : Int))
             replace H := Option.bind_eq_some_iff.mp H
             obtain ⟨t325,A400,H⟩ := H
             (try dsimp only at H)
             have A40 := Aside0.mk A400
             clear A400
             by_cases c41 : t325 < 0
             ·rw [if_pos c41] at H
              have c41b0 : decide (t325 < 0) = true := decide_eq_true c41
              clear c41
              simp only [Option.some.injEq,Prod.mk.injEq] at H
              obtain ⟨rfl,rfl,rfl,rfl⟩ := H
              go_wp2_with (first | ((with_reducible refine gate_callee (f := 33) rfl ?_);refine goesL_ (some 39) rfl rfl Tryz.func33 (by kernel_rfl) rfl #[.string (a0.extract ((ji13) : Int).toNat a0.size)] rfl (by (try simp only [List.map_toArray,List.map_cons,List.map_nil]);first | done | (simp only [hji13];rfl) | rfl | (simp only [List.length_drop,List.length_take];rfl)) ?_;(with_reducible refine (incipitref10_gap.calls kj2 (a0.extract ((ji13) : Int).toNat a0.size) t317 _ A16.out).mono ?_);rintro e w' ⟨rfl,⟨nd,rfl⟩⟩;refine ⟨_,rfl,?_⟩;(try (rw [drewN_self wc];generalize hq_ : World.drewN wc _ = wc;have n0_ : Aside0 (wc.heap[gb314]? = some (.cells #[.string (⟨#[]⟩ : ByteArray),.string (⟨#[]⟩ : ByteArray),.string (⟨#[]⟩ : ByteArray)] 26 (0,0))) := ⟨by rw [← hq_];exact (by (with_reducible repeat (first | refine blk_drewN ?_ _ | refine blk_drew ?_ | refine blk_alloc ?_ _));exact BK314.out)⟩;have n1_ : Aside0 (Below w.heap.size w wc) := ⟨by rw [← hq_];exact (by repeat (first | (with_reducible first | exact HB.out | apply below_alloc | apply pw_below_drewN | apply below_drew1 | refine below_set ?_ GE314.out) | exact HB.out))⟩;clear BK314 HB hq_;have BK314 := n0_;have HB := n1_;clear n0_ n1_))) | ((with_reducible refine gate_callee (f := 34) rfl ?_);refine goesL_ (some 50) rfl rfl Tryz.func34 (by kernel_rfl) rfl #[.string (a0.extract ((ji19) : Int).toNat a0.size)] rfl (by (try simp only [List.map_toArray,List.map_cons,List.map_nil]);first | done | (simp only [hji19];rfl) | rfl | (simp only [List.length_drop,List.length_take];rfl)) ?_;(with_reducible refine (incipitref09_Dest.calls kj2 (a0.extract ((ji19) : Int).toNat a0.size) t318 t319 true _ A22.out).mono ?_);rintro e w42 ⟨rfl,hb⟩;refine ⟨_,rfl,?_⟩;have n0_ := Aside0.mk (blk_below (g := gb314) (o := .cells #[.string (⟨#[]⟩ : ByteArray),.string (⟨#[]⟩ : ByteArray),.string (⟨#[]⟩ : ByteArray)] 26 (0,0)) (by (with_reducible repeat (first | refine blk_drewN ?_ _ | refine blk_drew ?_ | refine blk_alloc ?_ _));exact BK314.out) hb);have n1_ := Aside0.mk (below_step (by repeat (first | (with_reducible first | exact HB.out | apply below_alloc | apply pw_below_drewN | apply below_drew1 | refine below_set ?_ GE314.out) | exact HB.out)) hb);clear BK314;clear HB;have BK314 := n0_;have HB := n1_;clear n0_ n1_) | ((with_reducible refine gate_callee (f := 22) rfl ?_);refine goesL_ (some 61) rfl rfl Tryz.func22 (by kernel_rfl) rfl #[.string t315] rfl (by (try simp only [List.map_toArray,List.map_cons,List.map_nil]);try rfl) ?_;(with_reducible refine (incipitref03_Label.calls kj2 t315 t321 _ A24.out).mono ?_);rintro e w43 ⟨rfl,hb⟩;refine ⟨_,rfl,?_⟩;have n0_ := Aside0.mk (blk_below (g := gb314) (o := .cells #[.string (⟨#[]⟩ : ByteArray),.string (⟨#[]⟩ : ByteArray),.string (⟨#[]⟩ : ByteArray)] 26 (0,0)) (by (with_reducible repeat (first | refine blk_drewN ?_ _ | refine blk_drew ?_ | refine blk_alloc ?_ _));exact BK314.out) hb);have n1_ := Aside0.mk (below_step (by repeat (first | (with_reducible first | exact HB.out | apply below_alloc | apply pw_below_drewN | apply below_drew1 | refine below_set ?_ GE314.out) | exact HB.out)) hb);clear BK314;clear HB;have BK314 := n0_;have HB := n1_;clear n0_ n1_) | ((with_reducible refine gate_dst (N := 10) rfl ?_);(try (refine gate_guard (by rfl) ?_;dsimp only));refine box_event ?hg (N := 10) ?hd (cs := #[.string (⟨#[]⟩ : ByteArray),.string (⟨#[]⟩ : ByteArray),.string (⟨#[]⟩ : ByteArray)]) (t := 26) ?hr ?_;(case hd => rfl);(case hg => rfl);(case hr => first | (go_simp;done) | (go_simp;rfl));intro gb322 hg w44 hbox hb;have n0_ := Aside0.mk (blk_below (g := gb314) (o := .cells #[.string (⟨#[]⟩ : ByteArray),.string (⟨#[]⟩ : ByteArray),.string (⟨#[]⟩ : ByteArray)] 26 (0,0)) (by (with_reducible repeat (first | refine blk_drewN ?_ _ | refine blk_drew ?_ | refine blk_alloc ?_ _));exact BK314.out) hb);have n1_ := Aside0.mk (below_step (by repeat (first | (with_reducible first | exact HB.out | apply below_alloc | apply pw_below_drewN | apply below_drew1 | refine below_set ?_ GE314.out) | exact HB.out)) hb);have n2_ := Aside0.mk (hbox);have n3_ := Aside0.mk ((by rw [hg];exact (below_size (by repeat (first | (with_reducible first | exact HB.out | apply below_alloc | apply pw_below_drewN | apply below_drew1 | refine below_set ?_ GE314.out) | exact HB.out))) : w.heap.size ≤ gb322));have n4_ := Aside0.mk ((by rw [hg];exact (below_size (by repeat (first | (with_reducible first | exact HB.out | apply below_alloc | apply pw_below_drewN | apply below_drew1 | refine below_set ?_ GE314.out) | exact HB.out))) : w.heap.size ≤ gb322));have n5_ := Aside0.mk ((by rw [hg];exact Nat.ne_of_lt (blk_lt (g := gb314) (o := .cells #[.string (⟨#[]⟩ : ByteArray),.string (⟨#[]⟩ : ByteArray),.string (⟨#[]⟩ : ByteArray)] 26 (0,0)) (by (with_reducible repeat (first | refine blk_drewN ?_ _ | refine blk_drew ?_ | refine blk_alloc ?_ _));exact BK314.out)) : gb314 ≠ gb322));have n6_ := Aside0.mk ((by rw [hg];exact Nat.ne_of_gt (blk_lt (g := gb314) (o := .cells #[.string (⟨#[]⟩ : ByteArray),.string (⟨#[]⟩ : ByteArray),.string (⟨#[]⟩ : ByteArray)] 26 (0,0)) (by (with_reducible repeat (first | refine blk_drewN ?_ _ | refine blk_drew ?_ | refine blk_alloc ?_ _));exact BK314.out)) : gb322 ≠ gb314));clear BK314;clear HB;have BK314 := n0_;have HB := n1_;have BK322 := n2_;have GW322 := n3_;have GE322 := n4_;have NB314_322 := n5_;have NB322_314 := n6_;clear n0_ n1_ n2_ n3_ n4_ n5_ n6_;clear hb hbox hg;have hnb45 := NB322_314.out;have hnc45 := NB314_322.out;have hcz46_0 : w44.cell? ⟨gb322,0,none⟩ = some (.string (⟨#[]⟩ : ByteArray)) := (blk_cell BK322.out 0).trans rfl;have hcz46_1 : w44.cell? ⟨gb322,1,none⟩ = some (.string (⟨#[]⟩ : ByteArray)) := (blk_cell BK322.out 1).trans rfl;have hcz46_2 : w44.cell? ⟨gb322,2,none⟩ = some (.string (⟨#[]⟩ : ByteArray)) := (blk_cell BK322.out 2).trans rfl;have hfz46_0 := blk_frozen BK322.out 0;have hfz46_1 := blk_frozen BK322.out 1;have hfz46_2 := blk_frozen BK322.out 2) | ((with_reducible refine gate_callee (f := 35) rfl ?_);refine goesL_ (some 68) rfl rfl Tryz.func35 (by kernel_rfl) rfl #[.string (a0.extract ((ji25) : Int).toNat a0.size)] rfl (by (try simp only [List.map_toArray,List.map_cons,List.map_nil]);first | done | (simp only [hji25];rfl) | rfl | (simp only [List.length_drop,List.length_take];rfl)) ?_;(with_reducible refine (incipitref10_titled.calls kj2 (a0.extract ((ji25) : Int).toNat a0.size) t323 t324 _ A28.out).mono ?_);rintro e w47 ⟨rfl,hb⟩;refine ⟨_,rfl,?_⟩;have n0_ := Aside0.mk (blk_below (g := gb314) (o := .cells #[.string (⟨#[]⟩ : ByteArray),.string (⟨#[]⟩ : ByteArray),.string (⟨#[]⟩ : ByteArray)] 26 (0,0)) (by (with_reducible repeat (first | refine blk_drewN ?_ _ | refine blk_drew ?_ | refine blk_alloc ?_ _));refine blk_far ?_ NB314_322.out _;(with_reducible repeat (first | refine blk_drewN ?_ _ | refine blk_drew ?_ | refine blk_alloc ?_ _));refine blk_far ?_ NB314_322.out _;(with_reducible repeat (first | refine blk_drewN ?_ _ | refine blk_drew ?_ | refine blk_alloc ?_ _));refine blk_far ?_ NB314_322.out _;(with_reducible repeat (first | refine blk_drewN ?_ _ | refine blk_drew ?_ | refine blk_alloc ?_ _));exact BK314.out) hb);have n1_ := Aside0.mk (blk_below (g := gb322) (o := .cells #[.string t321,.string t318,.string (⟨#[]⟩ : ByteArray)] 26 (0,0)) (by (with_reducible repeat (first | refine blk_drewN ?_ _ | refine blk_drew ?_ | refine blk_alloc ?_ _));refine blk_put (cs := #[.string t321,.string t318,.string (⟨#[]⟩ : ByteArray)]) ?_ 2 _ rfl;(with_reducible repeat (first | refine blk_drewN ?_ _ | refine blk_drew ?_ | refine blk_alloc ?_ _));refine blk_put (cs := #[.string t321,.string (⟨#[]⟩ : ByteArray),.string (⟨#[]⟩ : ByteArray)]) ?_ 1 _ rfl;(with_reducible repeat (first | refine blk_drewN ?_ _ | refine blk_drew ?_ | refine blk_alloc ?_ _));refine blk_put (cs := #[.string (⟨#[]⟩ : ByteArray),.string (⟨#[]⟩ : ByteArray),.string (⟨#[]⟩ : ByteArray)]) ?_ 0 _ rfl;(with_reducible repeat (first | refine blk_drewN ?_ _ | refine blk_drew ?_ | refine blk_alloc ?_ _));exact BK322.out) hb);have n2_ := Aside0.mk (below_step (by repeat (first | (with_reducible first | exact HB.out | apply below_alloc | apply pw_below_drewN | apply below_drew1 | refine below_set ?_ GE314.out | refine below_set ?_ GE322.out) | exact HB.out)) hb);clear BK314;clear BK322;clear HB;have BK314 := n0_;have BK322 := n1_;have HB := n2_;clear n0_ n1_ n2_) | ((with_reducible refine gate_callee (f := 36) rfl ?_);refine goesL_ (some 82) rfl rfl Tryz.func36 (by kernel_rfl) rfl #[.string (a0.extract ((ji25) : Int).toNat a0.size)] rfl (by (try simp only [List.map_toArray,List.map_cons,List.map_nil]);first | done | (simp only [hji25];rfl) | rfl | (simp only [List.length_drop,List.length_take];rfl)) ?_;(with_reducible refine (incipitref10_end.calls kj2 (a0.extract ((ji25) : Int).toNat a0.size) t325 _ A40.out).mono ?_);rintro e w' ⟨rfl,⟨nd,rfl⟩⟩;refine ⟨_,rfl,?_⟩;(try (rw [drewN_self w47];generalize hq_ : World.drewN w47 _ = w47;have n0_ : Aside0 (w47.heap[gb314]? = some (.cells #[.string (⟨#[]⟩ : ByteArray),.string (⟨#[]⟩ : ByteArray),.string (⟨#[]⟩ : ByteArray)] 26 (0,0))) := ⟨by rw [← hq_];exact (by (with_reducible repeat (first | refine blk_drewN ?_ _ | refine blk_drew ?_ | refine blk_alloc ?_ _));exact BK314.out)⟩;have n1_ : Aside0 (w47.heap[gb322]? = some (.cells #[.string t321,.string t318,.string (⟨#[]⟩ : ByteArray)] 26 (0,0))) := ⟨by rw [← hq_];exact (by (with_reducible repeat (first | refine blk_drewN ?_ _ | refine blk_drew ?_ | refine blk_alloc ?_ _));exact BK322.out)⟩;have n2_ : Aside0 (Below w.heap.size w w47) := ⟨by rw [← hq_];exact (by repeat (first | (with_reducible first | exact HB.out | apply below_alloc | apply pw_below_drewN | apply below_drew1 | refine below_set ?_ GE314.out | refine below_set ?_ GE322.out) | exact HB.out))⟩;clear BK314 BK322 HB hq_;have BK314 := n0_;have BK322 := n1_;have HB := n2_;clear n0_ n1_ n2_));have hcz48_0 : w47.cell? ⟨gb314,0,none⟩ = some (.string (⟨#[]⟩ : ByteArray)) := (blk_cell BK314.out 0).trans rfl;have hcz48_1 : w47.cell? ⟨gb314,1,none⟩ = some (.string (⟨#[]⟩ : ByteArray)) := (blk_cell BK314.out 1).trans rfl;have hcz48_2 : w47.cell? ⟨gb314,2,none⟩ = some (.string (⟨#[]⟩ : ByteArray)) := (blk_cell BK314.out 2).trans rfl;have hfz48_0 := blk_frozen BK314.out 0;have hfz48_1 := blk_frozen BK314.out 1;have hfz48_2 := blk_frozen BK314.out 2))
              refine bodyPost_ret (results_ct rfl _ _ gb314 26 #[.string (⟨#[]⟩ : ByteArray),.string (⟨#[]⟩ : ByteArray),.string (⟨#[]⟩ : ByteArray)] (0,0) _ rfl (by (with_reducible repeat (first | refine blk_drewN ?_ _ | refine blk_drew ?_ | refine blk_alloc ?_ _));refine blk_put (cs := #[.string (⟨#[]⟩ : ByteArray),.string (⟨#[]⟩ : ByteArray),.string (⟨#[]⟩ : ByteArray)]) ?_ 2 _ rfl;(with_reducible repeat (first | refine blk_drewN ?_ _ | refine blk_drew ?_ | refine blk_alloc ?_ _));refine blk_put (cs := #[.string (⟨#[]⟩ : ByteArray),.string (⟨#[]⟩ : ByteArray),.string (⟨#[]⟩ : ByteArray)]) ?_ 1 _ rfl;(with_reducible repeat (first | refine blk_drewN ?_ _ | refine blk_drew ?_ | refine blk_alloc ?_ _));refine blk_put (cs := #[.string (⟨#[]⟩ : ByteArray),.string (⟨#[]⟩ : ByteArray),.string (⟨#[]⟩ : ByteArray)]) ?_ 0 _ rfl;(with_reducible repeat (first | refine blk_drewN ?_ _ | refine blk_drew ?_ | refine blk_alloc ?_ _));exact BK314.out) Tryz.underlying26 rfl (by kernel_rfl)) rfl ?_
              exact ⟨by first | rfl | (simp [errW_none,errW_some] <;> rfl) | (simp only [← hji13,← hji19,← hji25];first | rfl | (simp [errW_none,errW_some] <;> rfl)) | (simp [*,errW_none,errW_some] <;> rfl),by repeat (first | (with_reducible first | exact HB.out | apply below_alloc | apply pw_below_drewN | apply below_drew1 | refine below_set ?_ GE314.out | refine below_set ?_ GE322.out) | exact HB.out)⟩
             ·rw [if_neg c41] at H
              have c41b0 : decide (t325 < 0) = false := decide_eq_false c41
              clear c41
              simp only [Option.some.injEq,Prod.mk.injEq] at H
              obtain ⟨rfl,rfl,rfl,rfl⟩ := H
              go_wp2_with (first | ((with_reducible refine gate_callee (f := 33) rfl ?_);refine goesL_ (some 39) rfl rfl Tryz.func33 (by kernel_rfl) rfl #[.string (a0.extract ((ji13) : Int).toNat a0.size)] rfl (by (try simp only [List.map_toArray,List.map_cons,List.map_nil]);first | done | (simp only [hji13];rfl) | rfl | (simp only [List.length_drop,List.length_take];rfl)) ?_;(with_reducible refine (incipitref10_gap.calls kj2 (a0.extract ((ji13) : Int).toNat a0.size) t317 _ A16.out).mono ?_);rintro e w' ⟨rfl,⟨nd,rfl⟩⟩;refine ⟨_,rfl,?_⟩;(try (rw [drewN_self wc];generalize hq_ : World.drewN wc _ = wc;have n0_ : Aside0 (wc.heap[gb314]? = some (.cells #[.string (⟨#[]⟩ : ByteArray),.string (⟨#[]⟩ : ByteArray),.string (⟨#[]⟩ : ByteArray)] 26 (0,0))) := ⟨by rw [← hq_];exact (by (with_reducible repeat (first | refine blk_drewN ?_ _ | refine blk_drew ?_ | refine blk_alloc ?_ _));exact BK314.out)⟩;have n1_ : Aside0 (Below w.heap.size w wc) := ⟨by rw [← hq_];exact (by repeat (first | (with_reducible first | exact HB.out | apply below_alloc | apply pw_below_drewN | apply below_drew1 | refine below_set ?_ GE314.out) | exact HB.out))⟩;clear BK314 HB hq_;have BK314 := n0_;have HB := n1_;clear n0_ n1_))) | ((with_reducible refine gate_callee (f := 34) rfl ?_);refine goesL_ (some 50) rfl rfl Tryz.func34 (by kernel_rfl) rfl #[.string (a0.extract ((ji19) : Int).toNat a0.size)] rfl (by (try simp only [List.map_toArray,List.map_cons,List.map_nil]);first | done | (simp only [hji19];rfl) | rfl | (simp only [List.length_drop,List.length_take];rfl)) ?_;(with_reducible refine (incipitref09_Dest.calls kj2 (a0.extract ((ji19) : Int).toNat a0.size) t318 t319 true _ A22.out).mono ?_);rintro e w49 ⟨rfl,hb⟩;refine ⟨_,rfl,?_⟩;have n0_ := Aside0.mk (blk_below (g := gb314) (o := .cells #[.string (⟨#[]⟩ : ByteArray),.string (⟨#[]⟩ : ByteArray),.string (⟨#[]⟩ : ByteArray)] 26 (0,0)) (by (with_reducible repeat (first | refine blk_drewN ?_ _ | refine blk_drew ?_ | refine blk_alloc ?_ _));exact BK314.out) hb);have n1_ := Aside0.mk (below_step (by repeat (first | (with_reducible first | exact HB.out | apply below_alloc | apply pw_below_drewN | apply below_drew1 | refine below_set ?_ GE314.out) | exact HB.out)) hb);clear BK314;clear HB;have BK314 := n0_;have HB := n1_;clear n0_ n1_) | ((with_reducible refine gate_callee (f := 22) rfl ?_);refine goesL_ (some 61) rfl rfl Tryz.func22 (by kernel_rfl) rfl #[.string t315] rfl (by (try simp only [List.map_toArray,List.map_cons,List.map_nil]);try rfl) ?_;(with_reducible refine (incipitref03_Label.calls kj2 t315 t321 _ A24.out).mono ?_);rintro e w50 ⟨rfl,hb⟩;refine ⟨_,rfl,?_⟩;have n0_ := Aside0.mk (blk_below (g := gb314) (o := .cells #[.string (⟨#[]⟩ : ByteArray),.string (⟨#[]⟩ : ByteArray),.string (⟨#[]⟩ : ByteArray)] 26 (0,0)) (by (with_reducible repeat (first | refine blk_drewN ?_ _ | refine blk_drew ?_ | refine blk_alloc ?_ _));exact BK314.out) hb);have n1_ := Aside0.mk (below_step (by repeat (first | (with_reducible first | exact HB.out | apply below_alloc | apply pw_below_drewN | apply below_drew1 | refine below_set ?_ GE314.out) | exact HB.out)) hb);clear BK314;clear HB;have BK314 := n0_;have HB := n1_;clear n0_ n1_) | ((with_reducible refine gate_dst (N := 10) rfl ?_);(try (refine gate_guard (by rfl) ?_;dsimp only));refine box_event ?hg (N := 10) ?hd (cs := #[.string (⟨#[]⟩ : ByteArray),.string (⟨#[]⟩ : ByteArray),.string (⟨#[]⟩ : ByteArray)]) (t := 26) ?hr ?_;(case hd => rfl);(case hg => rfl);(case hr => first | (go_simp;done) | (go_simp;rfl));intro gb322 hg w51 hbox hb;have n0_ := Aside0.mk (blk_below (g := gb314) (o := .cells #[.string (⟨#[]⟩ : ByteArray),.string (⟨#[]⟩ : ByteArray),.string (⟨#[]⟩ : ByteArray)] 26 (0,0)) (by (with_reducible repeat (first | refine blk_drewN ?_ _ | refine blk_drew ?_ | refine blk_alloc ?_ _));exact BK314.out) hb);have n1_ := Aside0.mk (below_step (by repeat (first | (with_reducible first | exact HB.out | apply below_alloc | apply pw_below_drewN | apply below_drew1 | refine below_set ?_ GE314.out) | exact HB.out)) hb);have n2_ := Aside0.mk (hbox);have n3_ := Aside0.mk ((by rw [hg];exact (below_size (by repeat (first | (with_reducible first | exact HB.out | apply below_alloc | apply pw_below_drewN | apply below_drew1 | refine below_set ?_ GE314.out) | exact HB.out))) : w.heap.size ≤ gb322));have n4_ := Aside0.mk ((by rw [hg];exact (below_size (by repeat (first | (with_reducible first | exact HB.out | apply below_alloc | apply pw_below_drewN | apply below_drew1 | refine below_set ?_ GE314.out) | exact HB.out))) : w.heap.size ≤ gb322));have n5_ := Aside0.mk ((by rw [hg];exact Nat.ne_of_lt (blk_lt (g := gb314) (o := .cells #[.string (⟨#[]⟩ : ByteArray),.string (⟨#[]⟩ : ByteArray),.string (⟨#[]⟩ : ByteArray)] 26 (0,0)) (by (with_reducible repeat (first | refine blk_drewN ?_ _ | refine blk_drew ?_ | refine blk_alloc ?_ _));exact BK314.out)) : gb314 ≠ gb322));have n6_ := Aside0.mk ((by rw [hg];exact Nat.ne_of_gt (blk_lt (g := gb314) (o := .cells #[.string (⟨#[]⟩ : ByteArray),.string (⟨#[]⟩ : ByteArray),.string (⟨#[]⟩ : ByteArray)] 26 (0,0)) (by (with_reducible repeat (first | refine blk_drewN ?_ _ | refine blk_drew ?_ | refine blk_alloc ?_ _));exact BK314.out)) : gb322 ≠ gb314));clear BK314;clear HB;have BK314 := n0_;have HB := n1_;have BK322 := n2_;have GW322 := n3_;have GE322 := n4_;have NB314_322 := n5_;have NB322_314 := n6_;clear n0_ n1_ n2_ n3_ n4_ n5_ n6_;clear hb hbox hg;have hnb52 := NB322_314.out;have hnc52 := NB314_322.out;have hcz53_0 : w51.cell? ⟨gb322,0,none⟩ = some (.string (⟨#[]⟩ : ByteArray)) := (blk_cell BK322.out 0).trans rfl;have hcz53_1 : w51.cell? ⟨gb322,1,none⟩ = some (.string (⟨#[]⟩ : ByteArray)) := (blk_cell BK322.out 1).trans rfl;have hcz53_2 : w51.cell? ⟨gb322,2,none⟩ = some (.string (⟨#[]⟩ : ByteArray)) := (blk_cell BK322.out 2).trans rfl;have hfz53_0 := blk_frozen BK322.out 0;have hfz53_1 := blk_frozen BK322.out 1;have hfz53_2 := blk_frozen BK322.out 2) | ((with_reducible refine gate_callee (f := 35) rfl ?_);refine goesL_ (some 68) rfl rfl Tryz.func35 (by kernel_rfl) rfl #[.string (a0.extract ((ji25) : Int).toNat a0.size)] rfl (by (try simp only [List.map_toArray,List.map_cons,List.map_nil]);first | done | (simp only [hji25];rfl) | rfl | (simp only [List.length_drop,List.length_take];rfl)) ?_;(with_reducible refine (incipitref10_titled.calls kj2 (a0.extract ((ji25) : Int).toNat a0.size) t323 t324 _ A28.out).mono ?_);rintro e w54 ⟨rfl,hb⟩;refine ⟨_,rfl,?_⟩;have n0_ := Aside0.mk (blk_below (g := gb314) (o := .cells #[.string (⟨#[]⟩ : ByteArray),.string (⟨#[]⟩ : ByteArray),.string (⟨#[]⟩ : ByteArray)] 26 (0,0)) (by (with_reducible repeat (first | refine blk_drewN ?_ _ | refine blk_drew ?_ | refine blk_alloc ?_ _));refine blk_far ?_ NB314_322.out _;(with_reducible repeat (first | refine blk_drewN ?_ _ | refine blk_drew ?_ | refine blk_alloc ?_ _));refine blk_far ?_ NB314_322.out _;(with_reducible repeat (first | refine blk_drewN ?_ _ | refine blk_drew ?_ | refine blk_alloc ?_ _));refine blk_far ?_ NB314_322.out _;(with_reducible repeat (first | refine blk_drewN ?_ _ | refine blk_drew ?_ | refine blk_alloc ?_ _));exact BK314.out) hb);have n1_ := Aside0.mk (blk_below (g := gb322) (o := .cells #[.string t321,.string t318,.string (⟨#[]⟩ : ByteArray)] 26 (0,0)) (by (with_reducible repeat (first | refine blk_drewN ?_ _ | refine blk_drew ?_ | refine blk_alloc ?_ _));refine blk_put (cs := #[.string t321,.string t318,.string (⟨#[]⟩ : ByteArray)]) ?_ 2 _ rfl;(with_reducible repeat (first | refine blk_drewN ?_ _ | refine blk_drew ?_ | refine blk_alloc ?_ _));refine blk_put (cs := #[.string t321,.string (⟨#[]⟩ : ByteArray),.string (⟨#[]⟩ : ByteArray)]) ?_ 1 _ rfl;(with_reducible repeat (first | refine blk_drewN ?_ _ | refine blk_drew ?_ | refine blk_alloc ?_ _));refine blk_put (cs := #[.string (⟨#[]⟩ : ByteArray),.string (⟨#[]⟩ : ByteArray),.string (⟨#[]⟩ : ByteArray)]) ?_ 0 _ rfl;(with_reducible repeat (first | refine blk_drewN ?_ _ | refine blk_drew ?_ | refine blk_alloc ?_ _));exact BK322.out) hb);have n2_ := Aside0.mk (below_step (by repeat (first | (with_reducible first | exact HB.out | apply below_alloc | apply pw_below_drewN | apply below_drew1 | refine below_set ?_ GE314.out | refine below_set ?_ GE322.out) | exact HB.out)) hb);clear BK314;clear BK322;clear HB;have BK314 := n0_;have BK322 := n1_;have HB := n2_;clear n0_ n1_ n2_) | ((with_reducible refine gate_callee (f := 36) rfl ?_);refine goesL_ (some 82) rfl rfl Tryz.func36 (by kernel_rfl) rfl #[.string (a0.extract ((ji25) : Int).toNat a0.size)] rfl (by (try simp only [List.map_toArray,List.map_cons,List.map_nil]);first | done | (simp only [hji25];rfl) | rfl | (simp only [List.length_drop,List.length_take];rfl)) ?_;(with_reducible refine (incipitref10_end.calls kj2 (a0.extract ((ji25) : Int).toNat a0.size) t325 _ A40.out).mono ?_);rintro e w' ⟨rfl,⟨nd,rfl⟩⟩;refine ⟨_,rfl,?_⟩;(try (rw [drewN_self w54];generalize hq_ : World.drewN w54 _ = w54;have n0_ : Aside0 (w54.heap[gb314]? = some (.cells #[.string (⟨#[]⟩ : ByteArray),.string (⟨#[]⟩ : ByteArray),.string (⟨#[]⟩ : ByteArray)] 26 (0,0))) := ⟨by rw [← hq_];exact (by (with_reducible repeat (first | refine blk_drewN ?_ _ | refine blk_drew ?_ | refine blk_alloc ?_ _));exact BK314.out)⟩;have n1_ : Aside0 (w54.heap[gb322]? = some (.cells #[.string t321,.string t318,.string (⟨#[]⟩ : ByteArray)] 26 (0,0))) := ⟨by rw [← hq_];exact (by (with_reducible repeat (first | refine blk_drewN ?_ _ | refine blk_drew ?_ | refine blk_alloc ?_ _));exact BK322.out)⟩;have n2_ : Aside0 (Below w.heap.size w w54) := ⟨by rw [← hq_];exact (by repeat (first | (with_reducible first | exact HB.out | apply below_alloc | apply pw_below_drewN | apply below_drew1 | refine below_set ?_ GE314.out | refine below_set ?_ GE322.out) | exact HB.out))⟩;clear BK314 BK322 HB hq_;have BK314 := n0_;have BK322 := n1_;have HB := n2_;clear n0_ n1_ n2_));have hcz55_0 : w54.cell? ⟨gb322,0,none⟩ = some (.string t321) := (blk_cell BK322.out 0).trans rfl;have hcz55_1 : w54.cell? ⟨gb322,1,none⟩ = some (.string t318) := (blk_cell BK322.out 1).trans rfl;have hcz55_2 : w54.cell? ⟨gb322,2,none⟩ = some (.string (⟨#[]⟩ : ByteArray)) := (blk_cell BK322.out 2).trans rfl;have hfz55_0 := blk_frozen BK322.out 0;have hfz55_1 := blk_frozen BK322.out 1;have hfz55_2 := blk_frozen BK322.out 2;have hcz56_0 : w54.cell? ⟨gb314,0,none⟩ = some (.string (⟨#[]⟩ : ByteArray)) := (blk_cell BK314.out 0).trans rfl;have hcz56_1 : w54.cell? ⟨gb314,1,none⟩ = some (.string (⟨#[]⟩ : ByteArray)) := (blk_cell BK314.out 1).trans rfl;have hcz56_2 : w54.cell? ⟨gb314,2,none⟩ = some (.string (⟨#[]⟩ : ByteArray)) := (blk_cell BK314.out 2).trans rfl;have hfz56_0 := blk_frozen BK314.out 0;have hfz56_1 := blk_frozen BK314.out 1;have hfz56_2 := blk_frozen BK314.out 2))
              refine bodyPost_ret (results_ct rfl _ _ gb314 26 #[.string t321,.string t318,.string (⟨#[]⟩ : ByteArray)] (0,0) _ rfl (by (with_reducible repeat (first | refine blk_drewN ?_ _ | refine blk_drew ?_ | refine blk_alloc ?_ _));refine blk_put (cs := #[.string t321,.string t318,.string (⟨#[]⟩ : ByteArray)]) ?_ 2 _ rfl;(with_reducible repeat (first | refine blk_drewN ?_ _ | refine blk_drew ?_ | refine blk_alloc ?_ _));refine blk_put (cs := #[.string t321,.string (⟨#[]⟩ : ByteArray),.string (⟨#[]⟩ : ByteArray)]) ?_ 1 _ rfl;(with_reducible repeat (first | refine blk_drewN ?_ _ | refine blk_drew ?_ | refine blk_alloc ?_ _));refine blk_put (cs := #[.string (⟨#[]⟩ : ByteArray),.string (⟨#[]⟩ : ByteArray),.string (⟨#[]⟩ : ByteArray)]) ?_ 0 _ rfl;(with_reducible repeat (first | refine blk_drewN ?_ _ | refine blk_drew ?_ | refine blk_alloc ?_ _));exact BK314.out) Tryz.underlying26 rfl (by kernel_rfl)) rfl ?_
              exact ⟨by first | rfl | (simp [errW_none,errW_some] <;> rfl) | (simp only [← hji13,← hji19,← hji25];first | rfl | (simp [errW_none,errW_some] <;> rfl)) | (simp [*,errW_none,errW_some] <;> rfl),by repeat (first | (with_reducible first | exact HB.out | apply below_alloc | apply pw_below_drewN | apply below_drew1 | refine below_set ?_ GE314.out | refine below_set ?_ GE322.out) | exact HB.out)⟩
           ·rw [if_neg c27] at H
            exact absurd H (by simp)
          ·rw [if_neg c26] at H
           exact absurd H (by simp)
         ·replace c23 := Bool.eq_false_iff.mpr c23
          subst c23
          have H1 : (some ((⟨#[]⟩ : ByteArray),(⟨#[]⟩ : ByteArray),(⟨#[]⟩ : ByteArray),0)) = some (r1,r2,r3,r4) := by rw [if_neg (show ¬ (false = true) by decide)] at H;exact H
          clear H
          have H := H1
          clear H1
          simp only [Option.some.injEq,Prod.mk.injEq] at H
          obtain ⟨rfl,rfl,rfl,rfl⟩ := H
          go_wp2_with (first | ((with_reducible refine gate_callee (f := 33) rfl ?_);refine goesL_ (some 39) rfl rfl Tryz.func33 (by kernel_rfl) rfl #[.string (a0.extract ((ji13) : Int).toNat a0.size)] rfl (by (try simp only [List.map_toArray,List.map_cons,List.map_nil]);first | done | (simp only [hji13];rfl) | rfl | (simp only [List.length_drop,List.length_take];rfl)) ?_;(with_reducible refine (incipitref10_gap.calls kj2 (a0.extract ((ji13) : Int).toNat a0.size) t317 _ A16.out).mono ?_);rintro e w' ⟨rfl,⟨nd,rfl⟩⟩;refine ⟨_,rfl,?_⟩;(try (rw [drewN_self wc];generalize hq_ : World.drewN wc _ = wc;have n0_ : Aside0 (wc.heap[gb314]? = some (.cells #[.string (⟨#[]⟩ : ByteArray),.string (⟨#[]⟩ : ByteArray),.string (⟨#[]⟩ : ByteArray)] 26 (0,0))) := ⟨by rw [← hq_];exact (by (with_reducible repeat (first | refine blk_drewN ?_ _ | refine blk_drew ?_ | refine blk_alloc ?_ _));exact BK314.out)⟩;have n1_ : Aside0 (Below w.heap.size w wc) := ⟨by rw [← hq_];exact (by repeat (first | (with_reducible first | exact HB.out | apply below_alloc | apply pw_below_drewN | apply below_drew1 | refine below_set ?_ GE314.out) | exact HB.out))⟩;clear BK314 HB hq_;have BK314 := n0_;have HB := n1_;clear n0_ n1_))) | ((with_reducible refine gate_callee (f := 34) rfl ?_);refine goesL_ (some 50) rfl rfl Tryz.func34 (by kernel_rfl) rfl #[.string (a0.extract ((ji19) : Int).toNat a0.size)] rfl (by (try simp only [List.map_toArray,List.map_cons,List.map_nil]);first | done | (simp only [hji19];rfl) | rfl | (simp only [List.length_drop,List.length_take];rfl)) ?_;(with_reducible refine (incipitref09_Dest.calls kj2 (a0.extract ((ji19) : Int).toNat a0.size) t318 t319 false _ A22.out).mono ?_);rintro e w57 ⟨rfl,hb⟩;refine ⟨_,rfl,?_⟩;have n0_ := Aside0.mk (blk_below (g := gb314) (o := .cells #[.string (⟨#[]⟩ : ByteArray),.string (⟨#[]⟩ : ByteArray),.string (⟨#[]⟩ : ByteArray)] 26 (0,0)) (by (with_reducible repeat (first | refine blk_drewN ?_ _ | refine blk_drew ?_ | refine blk_alloc ?_ _));exact BK314.out) hb);have n1_ := Aside0.mk (below_step (by repeat (first | (with_reducible first | exact HB.out | apply below_alloc | apply pw_below_drewN | apply below_drew1 | refine below_set ?_ GE314.out) | exact HB.out)) hb);clear BK314;clear HB;have BK314 := n0_;have HB := n1_;clear n0_ n1_;have hcz58_0 : w57.cell? ⟨gb314,0,none⟩ = some (.string (⟨#[]⟩ : ByteArray)) := (blk_cell BK314.out 0).trans rfl;have hcz58_1 : w57.cell? ⟨gb314,1,none⟩ = some (.string (⟨#[]⟩ : ByteArray)) := (blk_cell BK314.out 1).trans rfl;have hcz58_2 : w57.cell? ⟨gb314,2,none⟩ = some (.string (⟨#[]⟩ : ByteArray)) := (blk_cell BK314.out 2).trans rfl;have hfz58_0 := blk_frozen BK314.out 0;have hfz58_1 := blk_frozen BK314.out 1;have hfz58_2 := blk_frozen BK314.out 2))
          refine bodyPost_ret (results_ct rfl _ _ gb314 26 #[.string (⟨#[]⟩ : ByteArray),.string (⟨#[]⟩ : ByteArray),.string (⟨#[]⟩ : ByteArray)] (0,0) _ rfl (by (with_reducible repeat (first | refine blk_drewN ?_ _ | refine blk_drew ?_ | refine blk_alloc ?_ _));refine blk_put (cs := #[.string (⟨#[]⟩ : ByteArray),.string (⟨#[]⟩ : ByteArray),.string (⟨#[]⟩ : ByteArray)]) ?_ 2 _ rfl;(with_reducible repeat (first | refine blk_drewN ?_ _ | refine blk_drew ?_ | refine blk_alloc ?_ _));refine blk_put (cs := #[.string (⟨#[]⟩ : ByteArray),.string (⟨#[]⟩ : ByteArray),.string (⟨#[]⟩ : ByteArray)]) ?_ 1 _ rfl;(with_reducible repeat (first | refine blk_drewN ?_ _ | refine blk_drew ?_ | refine blk_alloc ?_ _));refine blk_put (cs := #[.string (⟨#[]⟩ : ByteArray),.string (⟨#[]⟩ : ByteArray),.string (⟨#[]⟩ : ByteArray)]) ?_ 0 _ rfl;(with_reducible repeat (first | refine blk_drewN ?_ _ | refine blk_drew ?_ | refine blk_alloc ?_ _));exact BK314.out) Tryz.underlying26 rfl (by kernel_rfl)) rfl ?_
          exact ⟨by first | rfl | (simp [errW_none,errW_some] <;> rfl) | (simp only [← hji13,← hji19];first | rfl | (simp [errW_none,errW_some] <;> rfl)) | (simp [*,errW_none,errW_some] <;> rfl),by repeat (first | (with_reducible first | exact HB.out | apply below_alloc | apply pw_below_drewN | apply below_drew1 | refine below_set ?_ GE314.out) | exact HB.out)⟩
        ·rw [if_neg c21] at H
         exact absurd H (by simp)
       ·rw [if_neg c20] at H
        exact absurd H (by simp)
     ·rw [if_neg c15] at H
      exact absurd H (by simp)
    ·rw [if_neg c14] at H
     exact absurd H (by simp)

/-! ### incipitref10_All: function 18 -/
def incipitref10_All.l0 : Nat → ByteArray → List (S26) → Option ((List (S26)) × ByteArray)
  | 0,_,_ => none
  | k + 1,x0,x4 => (incipitref10_Take.f k x0).bind fun bt326 => (if bt326.2.2.2 = 0 then (some (x4,x0)) else (if x4.length < 2932031007402 then (if 0 ≤ bt326.2.2.2 then (if bt326.2.2.2 ≤ (x0.size : Int) then (incipitref10_All.l0 k (x0.extract (bt326.2.2.2 : Int).toNat x0.size) (x4 ++ [(⟨bt326.1,bt326.2.1,bt326.2.2.1⟩ : S26)])) else (none)) else (none)) else (none)))
def incipitref10_All.f (k : Nat) (a0 : ByteArray) : Option ((List (S26)) × ByteArray) := incipitref10_All.l0 k a0 ([] : List (S26))
set_option maxHeartbeats 8000000 in
set_option maxRecDepth 100000 in
theorem incipitref10_All.calls (k : Nat) (a0 : ByteArray) (r1 : List (S26)) (r2 : ByteArray) (w : World) (h : incipitref10_All.f k a0 = some (r1,r2)) :
  Calls Tryz.prog 18 #[.string a0] w fun e w' => ∃ v0_ : Value,e = .returned (.tuple #[v0_,.string r2]) ∧ Kd.R k26 26 w' w.heap.size (fun _ => True) v0_ r1 ∧ Below w.heap.size w w' := by
 have hu26 := Tryz.underlying26
 have HB := Aside0.mk (Below.refl w.heap.size w)
 have H : (incipitref10_All.l0 k a0 ([] : List (S26))) = some (r1,r2) := h
 clear h
 have H' := Aside0.mk H
 clear H
 go_enter Tryz.func18,Tryz.ntmps18
 go_wp2
 go_loopg [0,4] k (fun kq v0 v4 w' => ∃ (x0_1 : ByteArray) (x4_1 : List (S26)),v0 = .string x0_1 ∧ Aside0 (incipitref10_All.l0 kq x0_1 x4_1 = some (r1,r2)) ∧ Aside0 (kq ≤ k) ∧ Aside0 (Kd.R k26 26 w' w.heap.size (fun _ => True) v4 x4_1) ∧ Aside0 (Below w.heap.size w w'))
 case atStart => exact ⟨(a0),(([] : List (S26))),(by first | rfl | (simp;done) | (simp [*];done)),H',⟨Nat.le_refl _⟩,⟨by first | exact Kd.R_nil _ _ _ _ _ | exact Kd.N_nil _ _ _ _ _ | exact Kd.V_nil _ _ _ _ _ | exact Kd.Q_nil _ _ _ _ _ | exact Kd.S_nil _ _ _ _ _⟩,⟨by repeat (first | (with_reducible first | exact HB.out | apply below_alloc | apply pw_below_drewN | apply below_drew1) | exact HB.out)⟩⟩
 case round =>
  clear H'
  try clear c1
  obtain ⟨x0_1,x4_1,rfl,HA,HK1,HO_4,HB⟩ := hrel
  cases gk with
  | zero => exact absurd HA.out (by simp [incipitref10_All.l0])
  | succ k1 =>
   have H := HA.out
   clear HA
   simp only [incipitref10_All.l0] at H
   replace H := Option.bind_eq_some_iff.mp H
   obtain ⟨⟨t326,t327,t328,t329⟩,A20,H⟩ := H
   (try dsimp only at H)
   have A2 := Aside0.mk A20
   clear A20
   by_cases c3 : t329 = 0
   ·rw [if_pos c3] at H
    have c3b0 : (t329 == 0) = true := beq_iff_eq.mpr c3
    have c3b1 : (t329 != 0) = false := bne_eq_false_iff_eq.mpr c3
    clear c3
    simp only [Option.some.injEq,Prod.mk.injEq] at H
    obtain ⟨rfl,rfl⟩ := H
    go_wp2_with (first | ((with_reducible refine gate_callee (f := 16) rfl ?_);refine goesL_ (some 9) rfl rfl Tryz.func16 (by kernel_rfl) rfl #[.string x0_1] rfl (by (try simp only [List.map_toArray,List.map_cons,List.map_nil]);try rfl) ?_;(with_reducible refine (incipitref10_Take.calls k1 x0_1 t326 t327 t328 t329 _ A2.out).mono ?_);rintro e w4 ⟨rfl,hb⟩;refine ⟨_,rfl,?_⟩;have n0_ := Aside0.mk (Kd.R_below (by (with_reducible repeat (first | apply Kd.R_alloc | apply Kd.R_drewN | apply Kd.R_drew));exact HO_4.out) hb);have n1_ := Aside0.mk (below_step HB.out hb);clear HO_4;clear HB;have HO_4 := n0_;have HB := n1_;clear n0_ n1_) | ((with_reducible refine gate_dst (N := 5) rfl ?_);refine box_event ?hg (N := 5) ?hd (cs := #[.string (⟨#[]⟩ : ByteArray),.string (⟨#[]⟩ : ByteArray),.string (⟨#[]⟩ : ByteArray)]) (t := 26) ?hr ?_;(case hd => rfl);(case hg => rfl);(case hr => first | (go_simp;done) | (go_simp;rfl));intro gb330 hg w5 hbox hb;have n0_ := Aside0.mk (Kd.R_below (Kd.R_elderB (by (with_reducible repeat (first | apply Kd.R_alloc | apply Kd.R_drewN | apply Kd.R_drew));exact HO_4.out) gb330 (Nat.le_of_eq hg.symm)) hb);have n1_ := Aside0.mk (below_step HB.out hb);have n2_ := Aside0.mk (hbox);have n3_ := Aside0.mk ((by rw [hg];exact (below_size HB.out) : w.heap.size ≤ gb330));have n4_ := Aside0.mk ((by rw [hg];exact (below_size HB.out) : w.heap.size ≤ gb330));clear HO_4;clear HB;have HO_4 := n0_;have HB := n1_;have BK330 := n2_;have GW330 := n3_;have GE330 := n4_;clear n0_ n1_ n2_ n3_ n4_;clear hb hbox hg;have hcz6_0 : w5.cell? ⟨gb330,0,none⟩ = some (.string (⟨#[]⟩ : ByteArray)) := (blk_cell BK330.out 0).trans rfl;have hcz6_1 : w5.cell? ⟨gb330,1,none⟩ = some (.string (⟨#[]⟩ : ByteArray)) := (blk_cell BK330.out 1).trans rfl;have hcz6_2 : w5.cell? ⟨gb330,2,none⟩ = some (.string (⟨#[]⟩ : ByteArray)) := (blk_cell BK330.out 2).trans rfl;have hfz6_0 := blk_frozen BK330.out 0;have hfz6_1 := blk_frozen BK330.out 1;have hfz6_2 := blk_frozen BK330.out 2))
    go_ret2
    exact ⟨_,by first | rfl | (simp [errW_none,errW_some] <;> rfl) | (simp [*,errW_none,errW_some] <;> rfl),by (with_reducible repeat (first | apply Kd.R_alloc | apply Kd.R_drewN | apply Kd.R_drew));exact Kd.R_mono (Kd.R_far (p := ⟨gb330,2,none⟩) (Kd.R_far (p := ⟨gb330,1,none⟩) (Kd.R_far (p := ⟨gb330,0,none⟩) (Kd.R_mono HO_4.out (fun k_ hk => (⟨hk,hk.2⟩ : _ ∧ k_ ≠ gb330))) (fun _ hk => hk.2) (.string t326)) (fun _ hk => hk.2) (.string t327)) (fun _ hk => hk.2) (.string t328)) (fun _ hk => trivial),by repeat (first | (with_reducible first | exact HB.out | apply below_alloc | apply pw_below_drewN | apply below_drew1 | refine below_set ?_ GE330.out) | exact HB.out)⟩
   ·rw [if_neg c3] at H
    have c3b0 : (t329 == 0) = false := beq_eq_false_iff_ne.mpr c3
    have c3b1 : (t329 != 0) = true := bne_iff_ne.mpr c3
    by_cases c7 : x4_1.length < 2932031007402
    ·rw [if_pos c7] at H
     have LMc7 := Aside0.mk c7
     clear c7
     obtain ⟨y331,hy331⟩ : ∃ y_ : List (S26),y_ = (x4_1 ++ [(⟨t326,t327,t328⟩ : S26)]) := ⟨_,rfl⟩
     replace H : (if 0 ≤ t329 then (if t329 ≤ (x0_1.size : Int) then (incipitref10_All.l0 k1 (x0_1.extract (t329 : Int).toNat x0_1.size) y331) else (none)) else (none)) = some (r1,r2) := by first | (rw [hy331];with_reducible exact H) | (have H2_ := (Option.bind_some _ _).symm.trans H;rw [hy331];with_reducible exact H2_) | (have H2_ := (Option.bind_some _ _).symm.trans H;with_reducible exact H2_) | with_reducible exact H | (rw [hy331];exact H) | exact H
     have Ny331 := Aside0.mk hy331
     clear hy331
     by_cases c8 : 0 ≤ t329
     ·rw [if_pos c8] at H
      have c8b0 := eq_true c8
      have c8b1 : decide (0 ≤ t329) = true := decide_eq_true c8
      clear c8
      by_cases c9 : t329 ≤ (x0_1.size : Int)
      ·rw [if_pos c9] at H
       have c9b0 := eq_true c9
       have c9b1 : decide (t329 ≤ (x0_1.size : Int)) = true := decide_eq_true c9
       clear c9
       have H' := Aside0.mk H
       clear H
       go_wp2_with (first | ((with_reducible refine gate_callee (f := 16) rfl ?_);refine goesL_ (some 9) rfl rfl Tryz.func16 (by kernel_rfl) rfl #[.string x0_1] rfl (by (try simp only [List.map_toArray,List.map_cons,List.map_nil]);try rfl) ?_;(with_reducible refine (incipitref10_Take.calls k1 x0_1 t326 t327 t328 t329 _ A2.out).mono ?_);rintro e w10 ⟨rfl,hb⟩;refine ⟨_,rfl,?_⟩;have n0_ := Aside0.mk (Kd.R_below (by (with_reducible repeat (first | apply Kd.R_alloc | apply Kd.R_drewN | apply Kd.R_drew));exact HO_4.out) hb);have n1_ := Aside0.mk (below_step HB.out hb);clear HO_4;clear HB;have HO_4 := n0_;have HB := n1_;clear n0_ n1_) | ((with_reducible refine gate_dst (N := 5) rfl ?_);refine box_event ?hg (N := 5) ?hd (cs := #[.string (⟨#[]⟩ : ByteArray),.string (⟨#[]⟩ : ByteArray),.string (⟨#[]⟩ : ByteArray)]) (t := 26) ?hr ?_;(case hd => rfl);(case hg => rfl);(case hr => first | (go_simp;done) | (go_simp;rfl));intro gb330 hg w11 hbox hb;have n0_ := Aside0.mk (Kd.R_below (Kd.R_elderB (by (with_reducible repeat (first | apply Kd.R_alloc | apply Kd.R_drewN | apply Kd.R_drew));exact HO_4.out) gb330 (Nat.le_of_eq hg.symm)) hb);have n1_ := Aside0.mk (below_step HB.out hb);have n2_ := Aside0.mk (hbox);have n3_ := Aside0.mk ((by rw [hg];exact (below_size HB.out) : w.heap.size ≤ gb330));have n4_ := Aside0.mk ((by rw [hg];exact (below_size HB.out) : w.heap.size ≤ gb330));clear HO_4;clear HB;have HO_4 := n0_;have HB := n1_;have BK330 := n2_;have GW330 := n3_;have GE330 := n4_;clear n0_ n1_ n2_ n3_ n4_;clear hb hbox hg;have hcz12_0 : w11.cell? ⟨gb330,0,none⟩ = some (.string (⟨#[]⟩ : ByteArray)) := (blk_cell BK330.out 0).trans rfl;have hcz12_1 : w11.cell? ⟨gb330,1,none⟩ = some (.string (⟨#[]⟩ : ByteArray)) := (blk_cell BK330.out 1).trans rfl;have hcz12_2 : w11.cell? ⟨gb330,2,none⟩ = some (.string (⟨#[]⟩ : ByteArray)) := (blk_cell BK330.out 2).trans rfl;have hfz12_0 := blk_frozen BK330.out 0;have hfz12_1 := blk_frozen BK330.out 1;have hfz12_2 := blk_frozen BK330.out 2) | ((with_reducible refine gate_builtin (b := .append) (xs := #[.tmp 16,.tmp 18]) rfl ?_);at_builtin;refine Kd.R_append k26 (w0 := w) w.heap.size rfl (.tmp 16) (.tmp 18) 22 26 (.agg #[(.string ⟨#[]⟩),(.string ⟨#[]⟩),(.string ⟨#[]⟩)]) 48 rfl Tryz.underlying22 info26 rfl (by decide) (by omega) u4 x4_1 (⟨t326,t327,t328⟩ : S26) [.string t326,.string t327,.string t328] (fun k_ => k_ ≠ gb330) (fun _ => False) rfl (by first | (go_simp;done) | (go_simp;rfl)) ?aP (fun _ hk => hk.elim) ?aF ?aO ?aB ?aS ?aL ?_;(case aP => exact k26_mkM _ _ _ (⟨t326,t327,t328⟩ : S26));(case aB => exact (by repeat (first | (with_reducible first | exact HB.out | apply below_alloc | apply pw_below_drewN | apply below_drew1 | refine below_set ?_ GE330.out) | exact HB.out)));(case aF => exact (fun k_ hk => Kd.freshB (g := gb330) (o := .cells #[.string t326,.string t327,.string t328] 26 (0,0)) (by (with_reducible repeat (first | refine blk_drewN ?_ _ | refine blk_drew ?_ | refine blk_alloc ?_ _));refine blk_put (cs := #[.string t326,.string t327,.string (⟨#[]⟩ : ByteArray)]) ?_ 2 _ rfl;(with_reducible repeat (first | refine blk_drewN ?_ _ | refine blk_drew ?_ | refine blk_alloc ?_ _));refine blk_put (cs := #[.string t326,.string (⟨#[]⟩ : ByteArray),.string (⟨#[]⟩ : ByteArray)]) ?_ 1 _ rfl;(with_reducible repeat (first | refine blk_drewN ?_ _ | refine blk_drew ?_ | refine blk_alloc ?_ _));refine blk_put (cs := #[.string (⟨#[]⟩ : ByteArray),.string (⟨#[]⟩ : ByteArray),.string (⟨#[]⟩ : ByteArray)]) ?_ 0 _ rfl;(with_reducible repeat (first | refine blk_drewN ?_ _ | refine blk_drew ?_ | refine blk_alloc ?_ _));exact BK330.out) k_ hk));(case aO => exact (by (with_reducible repeat (first | apply Kd.R_alloc | apply Kd.R_drewN | apply Kd.R_drew));exact Kd.R_mono (Kd.R_far (p := ⟨gb330,2,none⟩) (Kd.R_far (p := ⟨gb330,1,none⟩) (Kd.R_far (p := ⟨gb330,0,none⟩) (Kd.R_mono HO_4.out (fun k_ hk => (⟨hk,hk.2⟩ : _ ∧ k_ ≠ gb330))) (fun _ hk => hk.2) (.string t326)) (fun _ hk => hk.2) (.string t327)) (fun _ hk => hk.2) (.string t328)) (fun _ hk => hk.1.2)));(case aS => exact (below_size (by repeat (first | (with_reducible first | exact HB.out | apply below_alloc | apply pw_below_drewN | apply below_drew1 | refine below_set ?_ GE330.out) | exact HB.out))));(case aL => have := LMc7.out;omega);intro v332 w13 ho hb hg hat;rw [← Ny331.out] at ho;have n0_ := Aside0.mk (blk_grown (g := gb330) (o := .cells #[.string t326,.string t327,.string t328] 26 (0,0)) (by (with_reducible repeat (first | refine blk_drewN ?_ _ | refine blk_drew ?_ | refine blk_alloc ?_ _));refine blk_put (cs := #[.string t326,.string t327,.string (⟨#[]⟩ : ByteArray)]) ?_ 2 _ rfl;(with_reducible repeat (first | refine blk_drewN ?_ _ | refine blk_drew ?_ | refine blk_alloc ?_ _));refine blk_put (cs := #[.string t326,.string (⟨#[]⟩ : ByteArray),.string (⟨#[]⟩ : ByteArray)]) ?_ 1 _ rfl;(with_reducible repeat (first | refine blk_drewN ?_ _ | refine blk_drew ?_ | refine blk_alloc ?_ _));refine blk_put (cs := #[.string (⟨#[]⟩ : ByteArray),.string (⟨#[]⟩ : ByteArray),.string (⟨#[]⟩ : ByteArray)]) ?_ 0 _ rfl;(with_reducible repeat (first | refine blk_drewN ?_ _ | refine blk_drew ?_ | refine blk_alloc ?_ _));exact BK330.out) hg (Kd.R_away HO_4.out (fun _ hk => hk.2)));have n1_ := Aside0.mk (hb);have n2_ := Aside0.mk (ho);clear BK330;clear HB;clear HO_4;have BK330 := n0_;have HB := n1_;have HO333 := n2_;clear n0_ n1_ n2_;clear ho hb hg hat))
       go_roundg k1
       case measure => have := HK1.out;omega
       case rel => exact ⟨(x0_1.extract (t329 : Int).toNat x0_1.size),(y331),(by first | rfl | (simp;done) | (simp [*];done)),H',⟨by have := HK1.out;omega⟩,⟨by (with_reducible repeat (first | apply Kd.R_alloc | apply Kd.R_drewN | apply Kd.R_drew));exact Kd.R_mono HO333.out (fun _ hk => trivial)⟩,⟨by repeat (first | (with_reducible first | exact HB.out | apply below_alloc | apply pw_below_drewN | apply below_drew1 | refine below_set ?_ GE330.out) | exact HB.out)⟩⟩
      ·rw [if_neg c9] at H
       exact absurd H (by simp)
     ·rw [if_neg c8] at H
      exact absurd H (by simp)
    ·rw [if_neg c7] at H
     exact absurd H (by simp)

/-! ### incipitlaw10_RefsTakes: function 5 -/
def incipitlaw10_RefsTakes.f (k : Nat) (a0 : ByteArray) : Option (Bool) := (incipitlaw10_awake.f k).bind fun t334 => (if (a0.size : Int) > 2000 then (some t334) else ((refs_Take.f k a0).bind fun bt335 => ((incipitref10_Take.f k a0).bind fun bt340 => ((refs_All.f k a0).bind fun bt345 => ((incipitref10_All.f k a0).bind fun bt349 => (if t334 = true then (if bt335.2.2.2 = bt340.2.2.2 then ((incipitref10_Same.f k (([(⟨bt335.1,bt335.2.1,bt335.2.2.1⟩ : S26)] : List (S26))) (([(⟨bt340.1,bt340.2.1,bt340.2.2.1⟩ : S26)] : List (S26)))).bind fun t359 => (if t359 = true then ((incipitref10_Same.f k bt345.1 bt349.1).bind fun t360 => (if t360 = true then (some (bt345.2.toList == bt349.2.toList)) else (none))) else (none))) else (none)) else (none)))))))
set_option maxHeartbeats 8000000 in
set_option maxRecDepth 100000 in
theorem incipitlaw10_RefsTakes.calls (k : Nat) (a0 : ByteArray) (r : Bool) (w : World) (hLd : Laid w) (h : incipitlaw10_RefsTakes.f k a0 = some r) :
  Calls Tryz.prog 5 #[.string a0] w fun e w' => e = .returned (.bool r) ∧ Below w.heap.size w w' := by
 have hu26 := Tryz.underlying26
 have HB := Aside0.mk (Below.refl w.heap.size w)
 have H : ((incipitlaw10_awake.f k).bind fun t334 => (if (a0.size : Int) > 2000 then (some t334) else ((refs_Take.f k a0).bind fun bt335 => ((incipitref10_Take.f k a0).bind fun bt340 => ((refs_All.f k a0).bind fun bt345 => ((incipitref10_All.f k a0).bind fun bt349 => (if t334 = true then (if bt335.2.2.2 = bt340.2.2.2 then ((incipitref10_Same.f k (([(⟨bt335.1,bt335.2.1,bt335.2.2.1⟩ : S26)] : List (S26))) (([(⟨bt340.1,bt340.2.1,bt340.2.2.1⟩ : S26)] : List (S26)))).bind fun t359 => (if t359 = true then ((incipitref10_Same.f k bt345.1 bt349.1).bind fun t360 => (if t360 = true then (some (bt345.2.toList == bt349.2.toList)) else (none))) else (none))) else (none)) else (none)))))))) = some r := h
 clear h
 replace H := Option.bind_eq_some_iff.mp H
 obtain ⟨t334,A20,H⟩ := H
 (try dsimp only at H)
 have A2 := Aside0.mk A20
 clear A20
 by_cases c3 : (a0.size : Int) > 2000
 ·rw [if_pos c3] at H
  have c3b0 : decide (2000 < (a0.size : Int)) = true := decide_eq_true c3
  have c3b1 : decide (2000 < a0.size) = true := decide_eq_true (by omega)
  clear c3
  obtain rfl := Option.some.inj H
  go_enter Tryz.func5,Tryz.ntmps5
  go_wp2_with (first | ((with_reducible refine gate_callee (f := 8) rfl ?_);refine goesL_ (some 12) rfl rfl Tryz.func8 (by kernel_rfl) rfl #[] rfl (by (try simp only [List.map_toArray,List.map_cons,List.map_nil]);try rfl) ?_;(with_reducible refine (incipitlaw10_awake.calls k  t334 _ ?side1 A2.out).mono ?_);(case side1 => exact Laid.go hLd HB.out);rintro e w4 ⟨rfl,hb⟩;refine ⟨_,rfl,?_⟩;have n0_ := Aside0.mk (below_step HB.out hb);clear HB;have HB := n0_;clear n0_))
  go_ret
  exact ⟨by first | rfl | (simp [errW_none,errW_some] <;> rfl) | (simp [*,errW_none,errW_some] <;> rfl),by repeat (first | (with_reducible first | exact HB.out | apply below_alloc | apply pw_below_drewN | apply below_drew1) | exact HB.out)⟩
 ·rw [if_neg c3] at H
  have c3b0 : decide (2000 < (a0.size : Int)) = false := decide_eq_false c3
  have c3b1 : decide (2000 < a0.size) = false := decide_eq_false (by omega)
  clear c3
  replace H := Option.bind_eq_some_iff.mp H
  obtain ⟨⟨t335,t336,t337,t338⟩,A50,H⟩ := H
  (try dsimp only at H)
  have A5 := Aside0.mk A50
  clear A50
  replace H := Option.bind_eq_some_iff.mp H
  obtain ⟨⟨t340,t341,t342,t343⟩,A60,H⟩ := H
  (try dsimp only at H)
  have A6 := Aside0.mk A60
  clear A60
  replace H := Option.bind_eq_some_iff.mp H
  obtain ⟨⟨t345,t346⟩,A70,H⟩ := H
  (try dsimp only at H)
  have A7 := Aside0.mk A70
  clear A70
  replace H := Option.bind_eq_some_iff.mp H
  obtain ⟨⟨t349,t350⟩,A80,H⟩ := H
  (try dsimp only at H)
  have A8 := Aside0.mk A80
  clear A80
  by_cases c9 : t334 = true
  ·subst c9
   have H1 : (if t338 = t343 then ((incipitref10_Same.f k (([(⟨t335,t336,t337⟩ : S26)] : List (S26))) (([(⟨t340,t341,t342⟩ : S26)] : List (S26)))).bind fun t359 => (if t359 = true then ((incipitref10_Same.f k t345 t349).bind fun t360 => (if t360 = true then (some (t346.toList == t350.toList)) else (none))) else (none))) else (none)) = some r := by rw [if_pos rfl] at H;exact H
   clear H
   have H := H1
   clear H1
   by_cases c10 : t338 = t343
   ·rw [if_pos c10] at H
    have c10b0 : (t338 == t343) = true := beq_iff_eq.mpr c10
    have c10b1 : (t338 != t343) = false := bne_eq_false_iff_eq.mpr c10
    clear c10
    obtain ⟨y353,hy353⟩ : ∃ y_ : List (S26),y_ = (([(⟨t335,t336,t337⟩ : S26)] : List (S26))) := ⟨_,rfl⟩
    replace H : ((incipitref10_Same.f k y353 (([(⟨t340,t341,t342⟩ : S26)] : List (S26)))).bind fun t359 => (if t359 = true then ((incipitref10_Same.f k t345 t349).bind fun t360 => (if t360 = true then (some (t346.toList == t350.toList)) else (none))) else (none))) = some r := by first | (rw [hy353];with_reducible exact H) | (have H2_ := (Option.bind_some _ _).symm.trans H;rw [hy353];with_reducible exact H2_) | (have H2_ := (Option.bind_some _ _).symm.trans H;with_reducible exact H2_) | with_reducible exact H | (rw [hy353];exact H) | exact H
    have Ny353 := Aside0.mk hy353
    clear hy353
    obtain ⟨y356,hy356⟩ : ∃ y_ : List (S26),y_ = (([(⟨t340,t341,t342⟩ : S26)] : List (S26))) := ⟨_,rfl⟩
    replace H : ((incipitref10_Same.f k y353 y356).bind fun t359 => (if t359 = true then ((incipitref10_Same.f k t345 t349).bind fun t360 => (if t360 = true then (some (t346.toList == t350.toList)) else (none))) else (none))) = some r := by first | (rw [hy356];with_reducible exact H) | (have H2_ := (Option.bind_some _ _).symm.trans H;rw [hy356];with_reducible exact H2_) | (have H2_ := (Option.bind_some _ _).symm.trans H;with_reducible exact H2_) | with_reducible exact H | (rw [hy356];exact H) | exact H
    have Ny356 := Aside0.mk hy356
    clear hy356
    replace H := Option.bind_eq_some_iff.mp H
    obtain ⟨t359,A110,H⟩ := H
    (try dsimp only at H)
    have A11 := Aside0.mk A110
    clear A110
    by_cases c12 : t359 = true
    ·subst c12
     have H1 : ((incipitref10_Same.f k t345 t349).bind fun t360 => (if t360 = true then (some (t346.toList == t350.toList)) else (none))) = some r := by rw [if_pos rfl] at H;exact H
     clear H
     have H := H1
     clear H1
     replace H := Option.bind_eq_some_iff.mp H
     obtain ⟨t360,A130,H⟩ := H
     (try dsimp only at H)
     have A13 := Aside0.mk A130
     clear A130
     by_cases c14 : t360 = true
     ·subst c14
      have H1 : (some (t346.toList == t350.toList)) = some r := by rw [if_pos rfl] at H;exact H
      clear H
      have H := H1
      clear H1
      obtain rfl := Option.some.inj H
      go_enter Tryz.func5,Tryz.ntmps5
      go_wp2_with (first | ((with_reducible refine gate_callee (f := 8) rfl ?_);refine goesL_ (some 12) rfl rfl Tryz.func8 (by kernel_rfl) rfl #[] rfl (by (try simp only [List.map_toArray,List.map_cons,List.map_nil]);try rfl) ?_;(with_reducible refine (incipitlaw10_awake.calls k  true _ ?side1 A2.out).mono ?_);(case side1 => exact Laid.go hLd HB.out);rintro e w15 ⟨rfl,hb⟩;refine ⟨_,rfl,?_⟩;have n0_ := Aside0.mk (below_step HB.out hb);clear HB;have HB := n0_;clear n0_) | ((with_reducible refine gate_callee (f := 15) rfl ?_);refine goesL_ (some 19) rfl rfl Tryz.func15 (by kernel_rfl) rfl #[.string a0] rfl (by (try simp only [List.map_toArray,List.map_cons,List.map_nil]);try rfl) ?_;(with_reducible refine (refs_Take.calls k a0 t335 t336 t337 t338 _ ?side1 A5.out).mono ?_);(case side1 => exact Laid.go hLd HB.out);rintro e w16 ⟨rfl,hb⟩;refine ⟨_,rfl,?_⟩;have n0_ := Aside0.mk (below_step HB.out hb);clear HB;have HB := n0_;clear n0_) | ((with_reducible refine gate_dst (N := 4) rfl ?_);(try (refine gate_guard (by rfl) ?_;dsimp only));refine box_event ?hg (N := 4) ?hd (cs := #[.string (⟨#[]⟩ : ByteArray),.string (⟨#[]⟩ : ByteArray),.string (⟨#[]⟩ : ByteArray)]) (t := 26) ?hr ?_;(case hd => rfl);(case hg => rfl);(case hr => first | (go_simp;done) | (go_simp;rfl));intro gb339 hg w17 hbox hb;have n0_ := Aside0.mk (below_step HB.out hb);have n1_ := Aside0.mk (hbox);have n2_ := Aside0.mk ((by rw [hg];exact (below_size HB.out) : w.heap.size ≤ gb339));have n3_ := Aside0.mk ((by rw [hg];exact (below_size HB.out) : w.heap.size ≤ gb339));clear HB;have HB := n0_;have BK339 := n1_;have GW339 := n2_;have GE339 := n3_;clear n0_ n1_ n2_ n3_;clear hb hbox hg;have hcz18_0 : w17.cell? ⟨gb339,0,none⟩ = some (.string (⟨#[]⟩ : ByteArray)) := (blk_cell BK339.out 0).trans rfl;have hcz18_1 : w17.cell? ⟨gb339,1,none⟩ = some (.string (⟨#[]⟩ : ByteArray)) := (blk_cell BK339.out 1).trans rfl;have hcz18_2 : w17.cell? ⟨gb339,2,none⟩ = some (.string (⟨#[]⟩ : ByteArray)) := (blk_cell BK339.out 2).trans rfl;have hfz18_0 := blk_frozen BK339.out 0;have hfz18_1 := blk_frozen BK339.out 1;have hfz18_2 := blk_frozen BK339.out 2) | ((with_reducible refine gate_callee (f := 16) rfl ?_);refine goesL_ (some 24) rfl rfl Tryz.func16 (by kernel_rfl) rfl #[.string a0] rfl (by (try simp only [List.map_toArray,List.map_cons,List.map_nil]);try rfl) ?_;(with_reducible refine (incipitref10_Take.calls k a0 t340 t341 t342 t343 _ A6.out).mono ?_);rintro e w19 ⟨rfl,hb⟩;refine ⟨_,rfl,?_⟩;have n0_ := Aside0.mk (blk_below (g := gb339) (o := .cells #[.string t335,.string t336,.string t337] 26 (0,0)) (by (with_reducible repeat (first | refine blk_drewN ?_ _ | refine blk_drew ?_ | refine blk_alloc ?_ _));refine blk_put (cs := #[.string t335,.string t336,.string (⟨#[]⟩ : ByteArray)]) ?_ 2 _ rfl;(with_reducible repeat (first | refine blk_drewN ?_ _ | refine blk_drew ?_ | refine blk_alloc ?_ _));refine blk_put (cs := #[.string t335,.string (⟨#[]⟩ : ByteArray),.string (⟨#[]⟩ : ByteArray)]) ?_ 1 _ rfl;(with_reducible repeat (first | refine blk_drewN ?_ _ | refine blk_drew ?_ | refine blk_alloc ?_ _));refine blk_put (cs := #[.string (⟨#[]⟩ : ByteArray),.string (⟨#[]⟩ : ByteArray),.string (⟨#[]⟩ : ByteArray)]) ?_ 0 _ rfl;(with_reducible repeat (first | refine blk_drewN ?_ _ | refine blk_drew ?_ | refine blk_alloc ?_ _));exact BK339.out) hb);have n1_ := Aside0.mk (below_step (by repeat (first | (with_reducible first | exact HB.out | apply below_alloc | apply pw_below_drewN | apply below_drew1 | refine below_set ?_ GE339.out) | exact HB.out)) hb);clear BK339;clear HB;have BK339 := n0_;have HB := n1_;clear n0_ n1_) | ((with_reducible refine gate_dst (N := 6) rfl ?_);(try (refine gate_guard (by rfl) ?_;dsimp only));refine box_event ?hg (N := 6) ?hd (cs := #[.string (⟨#[]⟩ : ByteArray),.string (⟨#[]⟩ : ByteArray),.string (⟨#[]⟩ : ByteArray)]) (t := 26) ?hr ?_;(case hd => rfl);(case hg => rfl);(case hr => first | (go_simp;done) | (go_simp;rfl));intro gb344 hg w20 hbox hb;have n0_ := Aside0.mk (blk_below (g := gb339) (o := .cells #[.string t335,.string t336,.string t337] 26 (0,0)) (by (with_reducible repeat (first | refine blk_drewN ?_ _ | refine blk_drew ?_ | refine blk_alloc ?_ _));exact BK339.out) hb);have n1_ := Aside0.mk (below_step (by repeat (first | (with_reducible first | exact HB.out | apply below_alloc | apply pw_below_drewN | apply below_drew1 | refine below_set ?_ GE339.out) | exact HB.out)) hb);have n2_ := Aside0.mk (hbox);have n3_ := Aside0.mk ((by rw [hg];exact (below_size (by repeat (first | (with_reducible first | exact HB.out | apply below_alloc | apply pw_below_drewN | apply below_drew1 | refine below_set ?_ GE339.out) | exact HB.out))) : w.heap.size ≤ gb344));have n4_ := Aside0.mk ((by rw [hg];exact (below_size (by repeat (first | (with_reducible first | exact HB.out | apply below_alloc | apply pw_below_drewN | apply below_drew1 | refine below_set ?_ GE339.out) | exact HB.out))) : w.heap.size ≤ gb344));have n5_ := Aside0.mk ((by rw [hg];exact Nat.ne_of_lt (blk_lt (g := gb339) (o := .cells #[.string t335,.string t336,.string t337] 26 (0,0)) (by (with_reducible repeat (first | refine blk_drewN ?_ _ | refine blk_drew ?_ | refine blk_alloc ?_ _));exact BK339.out)) : gb339 ≠ gb344));have n6_ := Aside0.mk ((by rw [hg];exact Nat.ne_of_gt (blk_lt (g := gb339) (o := .cells #[.string t335,.string t336,.string t337] 26 (0,0)) (by (with_reducible repeat (first | refine blk_drewN ?_ _ | refine blk_drew ?_ | refine blk_alloc ?_ _));exact BK339.out)) : gb344 ≠ gb339));clear BK339;clear HB;have BK339 := n0_;have HB := n1_;have BK344 := n2_;have GW344 := n3_;have GE344 := n4_;have NB339_344 := n5_;have NB344_339 := n6_;clear n0_ n1_ n2_ n3_ n4_ n5_ n6_;clear hb hbox hg;have hnb21 := NB344_339.out;have hnc21 := NB339_344.out;have hcz22_0 : w20.cell? ⟨gb344,0,none⟩ = some (.string (⟨#[]⟩ : ByteArray)) := (blk_cell BK344.out 0).trans rfl;have hcz22_1 : w20.cell? ⟨gb344,1,none⟩ = some (.string (⟨#[]⟩ : ByteArray)) := (blk_cell BK344.out 1).trans rfl;have hcz22_2 : w20.cell? ⟨gb344,2,none⟩ = some (.string (⟨#[]⟩ : ByteArray)) := (blk_cell BK344.out 2).trans rfl;have hfz22_0 := blk_frozen BK344.out 0;have hfz22_1 := blk_frozen BK344.out 1;have hfz22_2 := blk_frozen BK344.out 2) | ((with_reducible refine gate_callee (f := 17) rfl ?_);refine goesL_ (some 29) rfl rfl Tryz.func17 (by kernel_rfl) rfl #[.string a0] rfl (by (try simp only [List.map_toArray,List.map_cons,List.map_nil]);try rfl) ?_;(with_reducible refine (refs_All.calls k a0 t345 t346 _ ?side1 A7.out).mono ?_);(case side1 => exact Laid.go hLd (by repeat (first | (with_reducible first | exact HB.out | apply below_alloc | apply pw_below_drewN | apply below_drew1 | refine below_set ?_ GE339.out | refine below_set ?_ GE344.out) | exact HB.out)));rintro e w23 ⟨v347,rfl,ho0,hb⟩;refine ⟨_,rfl,?_⟩;have n0_ := Aside0.mk (Kd.R_lower (Kd.R_newB (Kd.R_newB ho0 (g := gb339) (o := .cells #[.string t335,.string t336,.string t337] 26 (0,0)) (by (with_reducible repeat (first | refine blk_drewN ?_ _ | refine blk_drew ?_ | refine blk_alloc ?_ _));refine blk_far ?_ NB339_344.out _;(with_reducible repeat (first | refine blk_drewN ?_ _ | refine blk_drew ?_ | refine blk_alloc ?_ _));refine blk_far ?_ NB339_344.out _;(with_reducible repeat (first | refine blk_drewN ?_ _ | refine blk_drew ?_ | refine blk_alloc ?_ _));refine blk_far ?_ NB339_344.out _;(with_reducible repeat (first | refine blk_drewN ?_ _ | refine blk_drew ?_ | refine blk_alloc ?_ _));exact BK339.out)) (g := gb344) (o := .cells #[.string t340,.string t341,.string t342] 26 (0,0)) (by (with_reducible repeat (first | refine blk_drewN ?_ _ | refine blk_drew ?_ | refine blk_alloc ?_ _));refine blk_put (cs := #[.string t340,.string t341,.string (⟨#[]⟩ : ByteArray)]) ?_ 2 _ rfl;(with_reducible repeat (first | refine blk_drewN ?_ _ | refine blk_drew ?_ | refine blk_alloc ?_ _));refine blk_put (cs := #[.string t340,.string (⟨#[]⟩ : ByteArray),.string (⟨#[]⟩ : ByteArray)]) ?_ 1 _ rfl;(with_reducible repeat (first | refine blk_drewN ?_ _ | refine blk_drew ?_ | refine blk_alloc ?_ _));refine blk_put (cs := #[.string (⟨#[]⟩ : ByteArray),.string (⟨#[]⟩ : ByteArray),.string (⟨#[]⟩ : ByteArray)]) ?_ 0 _ rfl;(with_reducible repeat (first | refine blk_drewN ?_ _ | refine blk_drew ?_ | refine blk_alloc ?_ _));exact BK344.out)) (below_size (by repeat (first | (with_reducible first | exact HB.out | apply below_alloc | apply pw_below_drewN | apply below_drew1 | refine below_set ?_ GE339.out | refine below_set ?_ GE344.out) | exact HB.out))));have n1_ := Aside0.mk (blk_below (g := gb339) (o := .cells #[.string t335,.string t336,.string t337] 26 (0,0)) (by (with_reducible repeat (first | refine blk_drewN ?_ _ | refine blk_drew ?_ | refine blk_alloc ?_ _));refine blk_far ?_ NB339_344.out _;(with_reducible repeat (first | refine blk_drewN ?_ _ | refine blk_drew ?_ | refine blk_alloc ?_ _));refine blk_far ?_ NB339_344.out _;(with_reducible repeat (first | refine blk_drewN ?_ _ | refine blk_drew ?_ | refine blk_alloc ?_ _));refine blk_far ?_ NB339_344.out _;(with_reducible repeat (first | refine blk_drewN ?_ _ | refine blk_drew ?_ | refine blk_alloc ?_ _));exact BK339.out) hb);have n2_ := Aside0.mk (blk_below (g := gb344) (o := .cells #[.string t340,.string t341,.string t342] 26 (0,0)) (by (with_reducible repeat (first | refine blk_drewN ?_ _ | refine blk_drew ?_ | refine blk_alloc ?_ _));refine blk_put (cs := #[.string t340,.string t341,.string (⟨#[]⟩ : ByteArray)]) ?_ 2 _ rfl;(with_reducible repeat (first | refine blk_drewN ?_ _ | refine blk_drew ?_ | refine blk_alloc ?_ _));refine blk_put (cs := #[.string t340,.string (⟨#[]⟩ : ByteArray),.string (⟨#[]⟩ : ByteArray)]) ?_ 1 _ rfl;(with_reducible repeat (first | refine blk_drewN ?_ _ | refine blk_drew ?_ | refine blk_alloc ?_ _));refine blk_put (cs := #[.string (⟨#[]⟩ : ByteArray),.string (⟨#[]⟩ : ByteArray),.string (⟨#[]⟩ : ByteArray)]) ?_ 0 _ rfl;(with_reducible repeat (first | refine blk_drewN ?_ _ | refine blk_drew ?_ | refine blk_alloc ?_ _));exact BK344.out) hb);have n3_ := Aside0.mk (below_step (by repeat (first | (with_reducible first | exact HB.out | apply below_alloc | apply pw_below_drewN | apply below_drew1 | refine below_set ?_ GE339.out | refine below_set ?_ GE344.out) | exact HB.out)) hb);clear BK339;clear BK344;clear HB;have HO348 := n0_;have BK339 := n1_;have BK344 := n2_;have HB := n3_;clear n0_ n1_ n2_ n3_;(try clear ho0)) | ((with_reducible refine gate_callee (f := 18) rfl ?_);refine goesL_ (some 34) rfl rfl Tryz.func18 (by kernel_rfl) rfl #[.string a0] rfl (by (try simp only [List.map_toArray,List.map_cons,List.map_nil]);try rfl) ?_;(with_reducible refine (incipitref10_All.calls k a0 t349 t350 _ A8.out).mono ?_);rintro e w24 ⟨v351,rfl,ho0,hb⟩;refine ⟨_,rfl,?_⟩;have n0_ := Aside0.mk (Kd.R_elder' (by (with_reducible repeat (first | apply Kd.R_alloc | apply Kd.R_drewN | apply Kd.R_drew));exact HO348.out) (Kd.R_base ho0) hb);have n1_ := Aside0.mk (Kd.R_lower (Kd.R_newB (Kd.R_newB (Kd.R_new' ho0 (Kd.R_lt (by (with_reducible repeat (first | apply Kd.R_alloc | apply Kd.R_drewN | apply Kd.R_drew));exact HO348.out))) (g := gb339) (o := .cells #[.string t335,.string t336,.string t337] 26 (0,0)) (by (with_reducible repeat (first | refine blk_drewN ?_ _ | refine blk_drew ?_ | refine blk_alloc ?_ _));exact BK339.out)) (g := gb344) (o := .cells #[.string t340,.string t341,.string t342] 26 (0,0)) (by (with_reducible repeat (first | refine blk_drewN ?_ _ | refine blk_drew ?_ | refine blk_alloc ?_ _));exact BK344.out)) (below_size (by repeat (first | (with_reducible first | exact HB.out | apply below_alloc | apply pw_below_drewN | apply below_drew1 | refine below_set ?_ GE339.out | refine below_set ?_ GE344.out) | exact HB.out))));have n2_ := Aside0.mk (blk_below (g := gb339) (o := .cells #[.string t335,.string t336,.string t337] 26 (0,0)) (by (with_reducible repeat (first | refine blk_drewN ?_ _ | refine blk_drew ?_ | refine blk_alloc ?_ _));exact BK339.out) hb);have n3_ := Aside0.mk (blk_below (g := gb344) (o := .cells #[.string t340,.string t341,.string t342] 26 (0,0)) (by (with_reducible repeat (first | refine blk_drewN ?_ _ | refine blk_drew ?_ | refine blk_alloc ?_ _));exact BK344.out) hb);have n4_ := Aside0.mk (below_step (by repeat (first | (with_reducible first | exact HB.out | apply below_alloc | apply pw_below_drewN | apply below_drew1 | refine below_set ?_ GE339.out | refine below_set ?_ GE344.out) | exact HB.out)) hb);clear HO348;clear BK339;clear BK344;clear HB;have HO348 := n0_;have HO352 := n1_;have BK339 := n2_;have BK344 := n3_;have HB := n4_;clear n0_ n1_ n2_ n3_ n4_;(try clear ho0);have hcz25_0 : w24.cell? ⟨gb339,0,none⟩ = some (.string t335) := (blk_cell BK339.out 0).trans rfl;have hcz25_1 : w24.cell? ⟨gb339,1,none⟩ = some (.string t336) := (blk_cell BK339.out 1).trans rfl;have hcz25_2 : w24.cell? ⟨gb339,2,none⟩ = some (.string t337) := (blk_cell BK339.out 2).trans rfl;have hfz25_0 := blk_frozen BK339.out 0;have hfz25_1 := blk_frozen BK339.out 1;have hfz25_2 := blk_frozen BK339.out 2) | ((with_reducible refine gate_dst (N := 45) rfl ?_);(try (refine gate_guard (by rfl) ?_;dsimp only));refine Kd.R_lit k26 _ 26 ?hg (N := 45) ?hd (xs := ([(⟨t335,t336,t337⟩ : S26)] : List (S26))) (inner := [.string t335,.string t336,.string t337]) (ok := fun _ => True) (okp := fun _ => True) ?hr ?hp (fun _ hk => hk) trivial (Below.refl _ _) (Nat.le_refl _) (by simp) ?_;(case hd => rfl);(case hg => rfl);(case hr => first | (go_simp;done) | (go_simp;rfl));(case hp => exact (Reps.c3 (show Kd.M k26 _ _ _ (⟨t335,t336,t337⟩ : S26) [.string t335,.string t336,.string t337] from (k26_mkM _ _ _ (⟨t335,t336,t337⟩ : S26) )) (Reps.none _ _)));intro v354 w26 ho27 hb hg_ hnew_;clear hg_ hnew_;(first | rw [← Ny353.out] at ho27 | (simp only [Int.reduceToNat] at ho27;rw [← Ny353.out] at ho27));have n0_ := Aside0.mk (Kd.R_elder' (by (with_reducible repeat (first | apply Kd.R_alloc | apply Kd.R_drewN | apply Kd.R_drew));exact HO348.out) (Kd.R_base ho27) hb);have n1_ := Aside0.mk (Kd.R_elder' (by (with_reducible repeat (first | apply Kd.R_alloc | apply Kd.R_drewN | apply Kd.R_drew));exact HO352.out) (Kd.R_base ho27) hb);have n2_ := Aside0.mk (Kd.R_lower (Kd.R_newB (Kd.R_newB (Kd.R_new' (Kd.R_new' ho27 (Kd.R_lt (by (with_reducible repeat (first | apply Kd.R_alloc | apply Kd.R_drewN | apply Kd.R_drew));exact HO348.out))) (Kd.R_lt (by (with_reducible repeat (first | apply Kd.R_alloc | apply Kd.R_drewN | apply Kd.R_drew));exact HO352.out))) (g := gb339) (o := .cells #[.string t335,.string t336,.string t337] 26 (0,0)) (by (with_reducible repeat (first | refine blk_drewN ?_ _ | refine blk_drew ?_ | refine blk_alloc ?_ _));exact BK339.out)) (g := gb344) (o := .cells #[.string t340,.string t341,.string t342] 26 (0,0)) (by (with_reducible repeat (first | refine blk_drewN ?_ _ | refine blk_drew ?_ | refine blk_alloc ?_ _));exact BK344.out)) (below_size (by repeat (first | (with_reducible first | exact HB.out | apply below_alloc | apply pw_below_drewN | apply below_drew1 | refine below_set ?_ GE339.out | refine below_set ?_ GE344.out) | exact HB.out))));have n3_ := Aside0.mk (blk_below (g := gb339) (o := .cells #[.string t335,.string t336,.string t337] 26 (0,0)) (by (with_reducible repeat (first | refine blk_drewN ?_ _ | refine blk_drew ?_ | refine blk_alloc ?_ _));exact BK339.out) hb);have n4_ := Aside0.mk (blk_below (g := gb344) (o := .cells #[.string t340,.string t341,.string t342] 26 (0,0)) (by (with_reducible repeat (first | refine blk_drewN ?_ _ | refine blk_drew ?_ | refine blk_alloc ?_ _));exact BK344.out) hb);have n5_ := Aside0.mk (below_step (by repeat (first | (with_reducible first | exact HB.out | apply below_alloc | apply pw_below_drewN | apply below_drew1 | refine below_set ?_ GE339.out | refine below_set ?_ GE344.out) | exact HB.out)) hb);clear HO348;clear HO352;clear BK339;clear BK344;clear HB;have HO348 := n0_;have HO352 := n1_;have HO355 := n2_;have BK339 := n3_;have BK344 := n4_;have HB := n5_;clear n0_ n1_ n2_ n3_ n4_ n5_;clear hb ho27;have hcz28_0 : w26.cell? ⟨gb344,0,none⟩ = some (.string t340) := (blk_cell BK344.out 0).trans rfl;have hcz28_1 : w26.cell? ⟨gb344,1,none⟩ = some (.string t341) := (blk_cell BK344.out 1).trans rfl;have hcz28_2 : w26.cell? ⟨gb344,2,none⟩ = some (.string t342) := (blk_cell BK344.out 2).trans rfl;have hfz28_0 := blk_frozen BK344.out 0;have hfz28_1 := blk_frozen BK344.out 1;have hfz28_2 := blk_frozen BK344.out 2) | ((with_reducible refine gate_dst (N := 47) rfl ?_);(try (refine gate_guard (by rfl) ?_;dsimp only));refine Kd.R_lit k26 _ 26 ?hg (N := 47) ?hd (xs := ([(⟨t340,t341,t342⟩ : S26)] : List (S26))) (inner := [.string t340,.string t341,.string t342]) (ok := fun _ => True) (okp := fun _ => True) ?hr ?hp (fun _ hk => hk) trivial (Below.refl _ _) (Nat.le_refl _) (by simp) ?_;(case hd => rfl);(case hg => rfl);(case hr => first | (go_simp;done) | (go_simp;rfl));(case hp => exact (Reps.c3 (show Kd.M k26 _ _ _ (⟨t340,t341,t342⟩ : S26) [.string t340,.string t341,.string t342] from (k26_mkM _ _ _ (⟨t340,t341,t342⟩ : S26) )) (Reps.none _ _)));intro v357 w29 ho30 hb hg_ hnew_;clear hg_ hnew_;(first | rw [← Ny356.out] at ho30 | (simp only [Int.reduceToNat] at ho30;rw [← Ny356.out] at ho30));have n0_ := Aside0.mk (Kd.R_elder' (by (with_reducible repeat (first | apply Kd.R_alloc | apply Kd.R_drewN | apply Kd.R_drew));exact HO348.out) (Kd.R_base ho30) hb);have n1_ := Aside0.mk (Kd.R_elder' (by (with_reducible repeat (first | apply Kd.R_alloc | apply Kd.R_drewN | apply Kd.R_drew));exact HO352.out) (Kd.R_base ho30) hb);have n2_ := Aside0.mk (Kd.R_elder' (by (with_reducible repeat (first | apply Kd.R_alloc | apply Kd.R_drewN | apply Kd.R_drew));exact HO355.out) (Kd.R_base ho30) hb);have n3_ := Aside0.mk (Kd.R_lower (Kd.R_newB (Kd.R_newB (Kd.R_new' (Kd.R_new' (Kd.R_new' ho30 (Kd.R_lt (by (with_reducible repeat (first | apply Kd.R_alloc | apply Kd.R_drewN | apply Kd.R_drew));exact HO348.out))) (Kd.R_lt (by (with_reducible repeat (first | apply Kd.R_alloc | apply Kd.R_drewN | apply Kd.R_drew));exact HO352.out))) (Kd.R_lt (by (with_reducible repeat (first | apply Kd.R_alloc | apply Kd.R_drewN | apply Kd.R_drew));exact HO355.out))) (g := gb339) (o := .cells #[.string t335,.string t336,.string t337] 26 (0,0)) (by (with_reducible repeat (first | refine blk_drewN ?_ _ | refine blk_drew ?_ | refine blk_alloc ?_ _));exact BK339.out)) (g := gb344) (o := .cells #[.string t340,.string t341,.string t342] 26 (0,0)) (by (with_reducible repeat (first | refine blk_drewN ?_ _ | refine blk_drew ?_ | refine blk_alloc ?_ _));exact BK344.out)) (below_size (by repeat (first | (with_reducible first | exact HB.out | apply below_alloc | apply pw_below_drewN | apply below_drew1 | refine below_set ?_ GE339.out | refine below_set ?_ GE344.out) | exact HB.out))));have n4_ := Aside0.mk (blk_below (g := gb339) (o := .cells #[.string t335,.string t336,.string t337] 26 (0,0)) (by (with_reducible repeat (first | refine blk_drewN ?_ _ | refine blk_drew ?_ | refine blk_alloc ?_ _));exact BK339.out) hb);have n5_ := Aside0.mk (blk_below (g := gb344) (o := .cells #[.string t340,.string t341,.string t342] 26 (0,0)) (by (with_reducible repeat (first | refine blk_drewN ?_ _ | refine blk_drew ?_ | refine blk_alloc ?_ _));exact BK344.out) hb);have n6_ := Aside0.mk (below_step (by repeat (first | (with_reducible first | exact HB.out | apply below_alloc | apply pw_below_drewN | apply below_drew1 | refine below_set ?_ GE339.out | refine below_set ?_ GE344.out) | exact HB.out)) hb);clear HO348;clear HO352;clear HO355;clear BK339;clear BK344;clear HB;have HO348 := n0_;have HO352 := n1_;have HO355 := n2_;have HO358 := n3_;have BK339 := n4_;have BK344 := n5_;have HB := n6_;clear n0_ n1_ n2_ n3_ n4_ n5_ n6_;clear hb ho30;obtain ⟨Ao31,co31,eo31⟩ := Kd.R_slice HO355.out;subst eo31;obtain ⟨Ao32,co32,eo32⟩ := Kd.R_slice HO358.out;subst eo32) | (go_at_call 12;(with_reducible refine (incipitref10_Same.calls k _ _ y353 _ _ y356 true _ ?side1 ?side2 ?side3 ?side4 A11.out).mono ?_);(case side1 => repeat (first | exact (Kd.R_reads' HO355.out).2.2 | (with_reducible refine Kd.C_alloc ?_ _) | (with_reducible refine Kd.C_drewN ?_ _) | (with_reducible refine Kd.C_drew ?_)));(case side2 => exact (Kd.R_reads' HO355.out).2.1);(case side3 => repeat (first | exact (Kd.R_reads' HO358.out).2.2 | (with_reducible refine Kd.C_alloc ?_ _) | (with_reducible refine Kd.C_drewN ?_ _) | (with_reducible refine Kd.C_drew ?_)));(case side4 => exact (Kd.R_reads' HO358.out).2.1);rintro e w' ⟨rfl,⟨nd,rfl⟩⟩;obtain ⟨Ao33,co33,eo33⟩ := Kd.R_slice HO348.out;subst eo33;obtain ⟨Ao34,co34,eo34⟩ := Kd.R_slice HO352.out;subst eo34) | (go_at_call 12;(with_reducible refine (incipitref10_Same.calls k _ _ t345 _ _ t349 true _ ?side1 ?side2 ?side3 ?side4 A13.out).mono ?_);(case side1 => repeat (first | exact (Kd.R_reads' HO348.out).2.2 | (with_reducible refine Kd.C_alloc ?_ _) | (with_reducible refine Kd.C_drewN ?_ _) | (with_reducible refine Kd.C_drew ?_)));(case side2 => exact (Kd.R_reads' HO348.out).2.1);(case side3 => repeat (first | exact (Kd.R_reads' HO352.out).2.2 | (with_reducible refine Kd.C_alloc ?_ _) | (with_reducible refine Kd.C_drewN ?_ _) | (with_reducible refine Kd.C_drew ?_)));(case side4 => exact (Kd.R_reads' HO352.out).2.1);rintro e w' ⟨rfl,⟨nd,rfl⟩⟩))
      go_ret
      exact ⟨by first | rfl | (simp [errW_none,errW_some] <;> rfl) | (simp [*,errW_none,errW_some] <;> rfl),by repeat (first | (with_reducible first | exact HB.out | apply below_alloc | apply pw_below_drewN | apply below_drew1 | refine below_set ?_ GE339.out | refine below_set ?_ GE344.out) | exact HB.out)⟩
     ·replace c14 := Bool.eq_false_iff.mpr c14
      subst c14
      have H1 : (none) = some r := by rw [if_neg (show ¬ (false = true) by decide)] at H;exact H
      cases H1
    ·replace c12 := Bool.eq_false_iff.mpr c12
     subst c12
     have H1 : (none) = some r := by rw [if_neg (show ¬ (false = true) by decide)] at H;exact H
     cases H1
   ·rw [if_neg c10] at H
    cases H
  ·replace c9 := Bool.eq_false_iff.mpr c9
   subst c9
   have H1 : (none) = some r := by rw [if_neg (show ¬ (false = true) by decide)] at H;exact H
   cases H1
/-! ### incipitlaw10_RefsRest: function 6 -/
end Go.Proofs.YtekifcbokdidlaaGreatDoor.PA
