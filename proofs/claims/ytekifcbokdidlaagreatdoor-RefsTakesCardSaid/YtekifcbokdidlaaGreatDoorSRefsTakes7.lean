/-
  Texts of the proof of RefsTakes, part 7 of 9: contracts and plain laws. Conditions: see each statement.
-/
import Derived.Test.YtekifcbokdidlaaGreatDoorSRefsTakes1
import Derived.Test.YtekifcbokdidlaaGreatDoorSRefsTakes5
import Derived.Test.YtekifcbokdidlaaGreatDoorSRefsTakes6
import Derived.Test.YtekifcbokdidlaaGreatDoorSRefsTakes2
import Derived.Test.YtekifcbokdidlaaGreatDoorSRefsTakes3
import Derived.Test.YtekifcbokdidlaaGreatDoorSRefsTakes4
set_option linter.unusedVariables false
namespace Go.Proofs.YtekifcbokdidlaaGreatDoor.PA
open Go.RowKit Go.Proofs.YtekifcbokdidlaaGreatDoorW.PrintWords Go.Proofs.YtekifcbokdidlaaGreatDoorW.PrintLast Go.Proofs.YtekifcbokdidlaaGreatDoorW.PrintMore
attribute [local go_sem] max2_int min2_int max_two min_two max_three min_three max_four min_four   -- for this text's walks alone
set_option linter.unusedVariables false
set_option linter.unusedSimpArgs false

/-! ### incipitref09_Dest: function 34 -/
mutual
def incipitref09_Dest.j0 : Nat → ByteArray → Bool → Option (ByteArray × Int × Bool)
 | 0,_,_ => none
 | k + 1,x0,x14 => if x14 = true then ((incipitref09_angled.f k x0).bind fun bt294 => (some (bt294.1,bt294.2.1,bt294.2.2))) else ((incipitref09_marks.f k x0).bind fun t297 => (incipitref09_Dest.l0 k x0 t297 0 0))
def incipitref09_Dest.l0 : Nat → ByteArray → List Bool → Int → Int → Option (ByteArray × Int × Bool)
 | 0,_,_,_,_ => none
 | k + 1,x0,x5,x6,x7 => if x7 < (x0.size : Int) then (if 0 ≤ x7 then (if (bt x0 x7) > 32 then (incipitref09_Dest.j2 k x0 x5 x6 x7 ((bt x0 x7) != 127)) else (incipitref09_Dest.j2 k x0 x5 x6 x7 false)) else (none)) else (incipitref09_Dest.j2 k x0 x5 x6 x7 false)
def incipitref09_Dest.j2 : Nat → ByteArray → List Bool → Int → Int → Bool → Option (ByteArray × Int × Bool)
 | 0,_,_,_,_,_ => none
 | k + 1,x0,x5,x6,x7,x37 => if x37 = true then (if 0 ≤ x7 then (if x7 < (x0.size : Int) then (if (bt x0 x7) = 40 then (if x7 < (x5.length : Int) then (incipitref09_Dest.j3 k x0 x5 x6 x7 (!(rdOf false x5 x7))) else (none)) else (incipitref09_Dest.j3 k x0 x5 x6 x7 false)) else (none)) else (none)) else (if x7 = 0 then (some ((⟨#[]⟩ : ByteArray),0,false)) else (if x6 > 0 then (some ((⟨#[]⟩ : ByteArray),0,false)) else (if 0 ≤ x7 then (if x7 ≤ (x0.size : Int) then ((incipitref05_Unescape.f k (x0.extract 0 (x7 : Int).toNat)).bind fun t300 => (some (t300,x7,true))) else (none)) else (none))))
def incipitref09_Dest.j3 : Nat → ByteArray → List Bool → Int → Int → Bool → Option (ByteArray × Int × Bool)
 | 0,_,_,_,_,_ => none
 | k + 1,x0,x5,x6,x7,x48 => if x48 = true then (if (wrap64 (x6 + 1)) > 32 then (some ((⟨#[]⟩ : ByteArray),0,false)) else (incipitref09_Dest.j4 k x0 x5 (wrap64 (x6 + 1)) x7)) else (incipitref09_Dest.j4 k x0 x5 x6 x7)
def incipitref09_Dest.j4 : Nat → ByteArray → List Bool → Int → Int → Option (ByteArray × Int × Bool)
 | 0,_,_,_,_ => none
 | k + 1,x0,x5,x6,x7 => if 0 ≤ x7 then (if x7 < (x0.size : Int) then (if (bt x0 x7) = 41 then (if x7 < (x5.length : Int) then (incipitref09_Dest.j5 k x0 x5 x6 x7 (!(rdOf false x5 x7))) else (none)) else (incipitref09_Dest.j5 k x0 x5 x6 x7 false)) else (none)) else (none)
def incipitref09_Dest.j5 : Nat → ByteArray → List Bool → Int → Int → Bool → Option (ByteArray × Int × Bool)
 | 0,_,_,_,_,_ => none
 | k + 1,x0,x5,x6,x7,x63 => if x63 = true then (if x6 = 0 then (if x7 = 0 then (some ((⟨#[]⟩ : ByteArray),0,false)) else (if x6 > 0 then (some ((⟨#[]⟩ : ByteArray),0,false)) else (if 0 ≤ x7 then (if x7 ≤ (x0.size : Int) then ((incipitref05_Unescape.f k (x0.extract 0 (x7 : Int).toNat)).bind fun t303 => (some (t303,x7,true))) else (none)) else (none)))) else (incipitref09_Dest.l0 k x0 x5 (wrap64 (x6 - 1)) (wrap64 (x7 + 1)))) else (incipitref09_Dest.l0 k x0 x5 x6 (wrap64 (x7 + 1)))
end
def incipitref09_Dest.f (k : Nat) (a0 : ByteArray) : Option (ByteArray × Int × Bool) := if a0.toList = ([] : List UInt8) then (incipitref09_Dest.j0 k a0 false) else (if 0 < (a0.size : Int) then (incipitref09_Dest.j0 k a0 ((bt a0 0) == 60)) else (none))
set_option maxHeartbeats 8000000 in
set_option maxRecDepth 100000 in
theorem incipitref09_Dest.calls (k : Nat) (a0 : ByteArray) (r1 : ByteArray) (r2 : Int) (r3 : Bool) (w : World) (h : incipitref09_Dest.f k a0 = some (r1,r2,r3)) :
  Calls Tryz.prog 34 #[.string a0] w fun e w' => e = .returned (.tuple #[.string r1,.int .i64 r2,.bool r3]) ∧ Below w.heap.size w w' := by
 have HB := Aside0.mk (Below.refl w.heap.size w)
 have H : (if a0.toList = ([] : List UInt8) then (incipitref09_Dest.j0 k a0 false) else (if 0 < (a0.size : Int) then (incipitref09_Dest.j0 k a0 ((bt a0 0) == 60)) else (none))) = some (r1,r2,r3) := h
 clear h
 have HC2 := Aside0.mk H
 clear H
 go_enter Tryz.func34,Tryz.ntmps34
 go_upto_region 1 with (fail)
 go_cut [14] (fun v14 wc => ∃ (kq : Nat) (x14_1 : Bool),v14 = .bool x14_1 ∧ Aside0 (incipitref09_Dest.j0 kq a0 x14_1 = some (r1,r2,r3)) ∧ Aside0 (kq ≤ k) ∧ Aside0 (Below w.heap.size w wc))
 case first =>
  have H := HC2.out
  clear HC2
  by_cases c3 : a0.toList = ([] : List UInt8)
  ·rw [if_pos c3] at H
   have c3b0 : (a0.toList == ([] : List UInt8)) = true := beq_iff_eq.mpr c3
   have c3b1 : (a0.toList != ([] : List UInt8)) = false := bne_eq_false_iff_eq.mpr c3
   clear c3
   (first | rw [c3b0] | (simp only [i64_w,i32_w];rw [c3b0]) | skip)
   have H' := Aside0.mk H
   clear H
   go_wp2
   go_meet
   case rel => exact ⟨_,(false),(by first | rfl | (simp;done) | (simp [*];done)),H',⟨by first | omega | exact Nat.le_refl _⟩,⟨by repeat (first | (with_reducible first | exact HB.out | apply below_alloc | apply pw_below_drewN | apply below_drew1) | exact HB.out)⟩⟩
  ·rw [if_neg c3] at H
   have c3b0 : (a0.toList == ([] : List UInt8)) = false := beq_eq_false_iff_ne.mpr c3
   have c3b1 : (a0.toList != ([] : List UInt8)) = true := bne_iff_ne.mpr c3
   (first | rw [c3b0] | (simp only [i64_w,i32_w];rw [c3b0]) | skip)
   by_cases c4 : 0 < (a0.size : Int)
   ·rw [if_pos c4] at H
    have c4b0 : decide (0 < (a0.size : Int)) = true := decide_eq_true c4
    have c4b1 : decide (0 < a0.size) = true := decide_eq_true (by omega)
    clear c4
    have H' := Aside0.mk H
    clear H
    have p5 : 0 ≤ (0 : Int) := (by omega)
    have q5 : 0 < a0.size := (by have : (0 : Int) < (a0.size : Int) := of_decide_eq_true (by first | (with_reducible assumption) | assumption);omega)
    have hx5 : ∀ h : 0 < a0.size,((a0[0]'h).toNat : Int) = bt a0 0 := bt_at a0 0
    clear p5
    have qi5 : (0 < (a0.size : Int)) = True := eq_true (of_decide_eq_true (by first | (with_reducible assumption) | assumption))
    replace q5 := eq_true q5
    go_wp2
    go_meet
    case rel => exact ⟨_,(((bt a0 0) == 60)),(by first | rfl | (simp;done) | (simp [*];done)),H',⟨by first | omega | exact Nat.le_refl _⟩,⟨by repeat (first | (with_reducible first | exact HB.out | apply below_alloc | apply pw_below_drewN | apply below_drew1) | exact HB.out)⟩⟩
   ·rw [if_neg c4] at H
    exact absurd H (by simp)
 case rest =>
  clear HC2
  try clear p2
  try clear c3
  try clear c3b0
  try clear c3b1
  try clear c4
  try clear c4b0
  try clear c4b1
  try clear p5
  try clear q5
  try clear hx5
  try clear qi5
  try clear p5
  try clear q5
  obtain ⟨kq,x14_1,rfl,HA,HJ1,HB⟩ := hcut
  cases kq with
  | zero => exact absurd HA.out (by simp [incipitref09_Dest.j0])
  | succ kj1 =>
   have H := HA.out
   clear HA
   simp only [incipitref09_Dest.j0] at H
   by_cases c6 : x14_1 = true
   ·subst c6
    have H1 : ((incipitref09_angled.f kj1 a0).bind fun bt294 => (some (bt294.1,bt294.2.1,bt294.2.2))) = some (r1,r2,r3) := by rw [if_pos rfl] at H;exact H
    clear H
    have H := H1
    clear H1
    replace H := Option.bind_eq_some_iff.mp H
    obtain ⟨⟨t294,t295,t296⟩,A70,H⟩ := H
    (try dsimp only at H)
    have A7 := Aside0.mk A70
    clear A70
    simp only [Option.some.injEq,Prod.mk.injEq] at H
    obtain ⟨rfl,rfl,rfl⟩ := H
    go_wp2_with (first | ((with_reducible refine gate_callee (f := 58) rfl ?_);refine goesL_ (some 16) rfl rfl Tryz.func58 (by kernel_rfl) rfl #[.string a0] rfl (by (try simp only [List.map_toArray,List.map_cons,List.map_nil]);try rfl) ?_;(with_reducible refine (incipitref09_angled.calls kj1 a0 t294 t295 t296 _ A7.out).mono ?_);rintro e w8 ⟨rfl,hb⟩;refine ⟨_,rfl,?_⟩;have n0_ := Aside0.mk (below_step HB.out hb);clear HB;have HB := n0_;clear n0_))
    go_ret3
    exact ⟨by first | rfl | exact retNe _ | (simp [errW_none,errW_some] <;> rfl) | (simp [*,errW_none,errW_some] <;> rfl),by repeat (first | (with_reducible first | exact HB.out | apply below_alloc | apply pw_below_drewN | apply below_drew1) | exact HB.out)⟩
   ·replace c6 := Bool.eq_false_iff.mpr c6
    subst c6
    have H1 : ((incipitref09_marks.f kj1 a0).bind fun t297 => (incipitref09_Dest.l0 kj1 a0 t297 0 0)) = some (r1,r2,r3) := by rw [if_neg (show ¬ (false = true) by decide)] at H;exact H
    clear H
    have H := H1
    clear H1
    replace H := Option.bind_eq_some_iff.mp H
    obtain ⟨t297,A90,H⟩ := H
    (try dsimp only at H)
    have A9 := Aside0.mk A90
    clear A90
    have H' := Aside0.mk H
    clear H
    go_wp2_with (first | ((with_reducible refine gate_callee (f := 55) rfl ?_);refine goesL_ (some 21) rfl rfl Tryz.func55 (by kernel_rfl) rfl #[.string a0] rfl (by (try simp only [List.map_toArray,List.map_cons,List.map_nil]);try rfl) ?_;(with_reducible refine (incipitref09_marks.calls kj1 a0 t297 _ A9.out).mono ?_);rintro e w10 ⟨v298,rfl,ho0,hb⟩;refine ⟨_,rfl,?_⟩;have n0_ := Aside0.mk (Kd.R_lower ho0 (below_size HB.out));have n1_ := Aside0.mk (below_step HB.out hb);clear HB;have HO299 := n0_;have HB := n1_;clear n0_ n1_;(try clear ho0)))
    go_loopg [6,7] kj1 (fun kq v6 v7 w' => ∃ (x6_2 : Int) (x7_2 : Int),v6 = .int .i64 x6_2 ∧ v7 = .int .i64 x7_2 ∧ Aside0 (incipitref09_Dest.l0 kq a0 t297 x6_2 x7_2 = some (r1,r2,r3)) ∧ Aside0 (kq ≤ kj1) ∧ Aside0 (Kd.R Kd.bool 4 w' w.heap.size (fun _ => True) v298 t297) ∧ Aside0 (Below w.heap.size w w'))
    case atStart => exact ⟨(0),(0),(by first | rfl | (simp;done) | (simp [*];done)),(by first | rfl | (simp;done) | (simp [*];done)),H',⟨Nat.le_refl _⟩,⟨by (with_reducible repeat (first | apply Kd.R_alloc | apply Kd.R_drewN | apply Kd.R_drew));exact HO299.out⟩,⟨by repeat (first | (with_reducible first | exact HB.out | apply below_alloc | apply pw_below_drewN | apply below_drew1) | exact HB.out)⟩⟩
    case round =>
     clear H'
     try clear p2
     try clear c3
     try clear c3b0
     try clear c3b1
     try clear c4
     try clear c4b0
     try clear c4b1
     try clear c5
     try clear p5
     try clear q5
     try clear hx5
     try clear qi5
     try clear c6
     try clear p2
     try clear p5
     try clear q5
     obtain ⟨x6_2,x7_2,rfl,rfl,HA,HK2,HO_5,HB⟩ := hrel
     cases gk with
     | zero => exact absurd HA.out (by simp [incipitref09_Dest.l0])
     | succ k2 =>
      have H := HA.out
      clear HA
      simp only [incipitref09_Dest.l0] at H
      have HC11 := Aside0.mk H
      clear H
      go_upto_region 6 with (fail)
      go_cut [37] (fun v37 wc => ∃ (kq : Nat) (x37_10 : Bool),v37 = .bool x37_10 ∧ Aside0 (incipitref09_Dest.j2 kq a0 t297 x6_2 x7_2 x37_10 = some (r1,r2,r3)) ∧ Aside0 (kq ≤ k2) ∧ Aside0 (Kd.R Kd.bool 4 wc w.heap.size (fun _ => True) v298 t297) ∧ Aside0 (Below w.heap.size w wc))
      case first =>
       have H := HC11.out
       clear HC11
       by_cases c12 : x7_2 < (a0.size : Int)
       ·rw [if_pos c12] at H
        have c12b0 : decide (x7_2 < (a0.size : Int)) = true := decide_eq_true c12
        clear c12
        (first | rw [c12b0] | (simp only [i64_w,i32_w];rw [c12b0]) | skip)
        by_cases c13 : 0 ≤ x7_2
        ·rw [if_pos c13] at H
         have c13b0 : decide (0 ≤ x7_2) = true := decide_eq_true c13
         clear c13
         by_cases c15 : (bt a0 x7_2) > 32
         ·rw [if_pos c15] at H
          have c15b0 : decide (32 < (bt a0 x7_2)) = true := decide_eq_true c15
          clear c15
          have H' := Aside0.mk H
          clear H
          have p14 : 0 ≤ (x7_2 : Int) := of_decide_eq_true (by first | (with_reducible assumption) | assumption)
          have q14 : x7_2 < (a0.size : Int) := of_decide_eq_true (by first | (with_reducible assumption) | assumption)
          have hx14 := bt_at a0 x7_2
          replace p14 := eq_true p14
          replace q14 := eq_true q14
          have p16 : 0 ≤ (x7_2 : Int) := of_decide_eq_true (by first | (with_reducible assumption) | assumption)
          have q16 : x7_2 < (a0.size : Int) := of_decide_eq_true (by first | (with_reducible assumption) | assumption)
          have hx16 := bt_at a0 x7_2
          replace p16 := eq_true p16
          replace q16 := eq_true q16
          go_wp2
          go_meet
          case rel => exact ⟨_,(((bt a0 x7_2) != 127)),(by first | rfl | (simp;done) | (simp [*];done)),H',⟨by have := HJ1.out;have := HK2.out;first | omega | exact Nat.le_refl _⟩,⟨by (with_reducible repeat (first | apply Kd.R_alloc | apply Kd.R_drewN | apply Kd.R_drew));exact HO_5.out⟩,⟨by repeat (first | (with_reducible first | exact HB.out | apply below_alloc | apply pw_below_drewN | apply below_drew1) | exact HB.out)⟩⟩
         ·rw [if_neg c15] at H
          have c15b0 : decide (32 < (bt a0 x7_2)) = false := decide_eq_false c15
          clear c15
          have H' := Aside0.mk H
          clear H
          have p14 : 0 ≤ (x7_2 : Int) := of_decide_eq_true (by first | (with_reducible assumption) | assumption)
          have q14 : x7_2 < (a0.size : Int) := of_decide_eq_true (by first | (with_reducible assumption) | assumption)
          have hx14 := bt_at a0 x7_2
          replace p14 := eq_true p14
          replace q14 := eq_true q14
          go_wp2
          go_meet
          case rel => exact ⟨_,(false),(by first | rfl | (simp;done) | (simp [*];done)),H',⟨by have := HJ1.out;have := HK2.out;first | omega | exact Nat.le_refl _⟩,⟨by (with_reducible repeat (first | apply Kd.R_alloc | apply Kd.R_drewN | apply Kd.R_drew));exact HO_5.out⟩,⟨by repeat (first | (with_reducible first | exact HB.out | apply below_alloc | apply pw_below_drewN | apply below_drew1) | exact HB.out)⟩⟩
        ·rw [if_neg c13] at H
         exact absurd H (by simp)
       ·rw [if_neg c12] at H
        have c12b0 : decide (x7_2 < (a0.size : Int)) = false := decide_eq_false c12
        clear c12
        (first | rw [c12b0] | (simp only [i64_w,i32_w];rw [c12b0]) | skip)
        have H' := Aside0.mk H
        clear H
        go_wp2
        go_meet
        case rel => exact ⟨_,(false),(by first | rfl | (simp;done) | (simp [*];done)),H',⟨by have := HJ1.out;have := HK2.out;first | omega | exact Nat.le_refl _⟩,⟨by (with_reducible repeat (first | apply Kd.R_alloc | apply Kd.R_drewN | apply Kd.R_drew));exact HO_5.out⟩,⟨by repeat (first | (with_reducible first | exact HB.out | apply below_alloc | apply pw_below_drewN | apply below_drew1) | exact HB.out)⟩⟩
      case rest =>
       clear HC11
       try clear c1
       try clear p1
       try clear q1
       try clear hx1
       try clear p2
       try clear c3
       try clear c3b0
       try clear c3b1
       try clear c4
       try clear c4b0
       try clear c4b1
       try clear c5
       try clear p5
       try clear q5
       try clear hx5
       try clear qi5
       try clear c6
       try clear c12
       try clear c12b0
       try clear c13
       try clear c13b0
       try clear p14
       try clear q14
       try clear hx14
       try clear c15
       try clear c15b0
       try clear p16
       try clear q16
       try clear hx16
       try clear p14
       try clear p16
       try clear p2
       try clear p5
       try clear q14
       try clear q16
       try clear q5
       obtain ⟨kq,x37_10,rfl,HA,HJ10,HO_5,HB⟩ := hcut
       cases kq with
       | zero => exact absurd HA.out (by simp [incipitref09_Dest.j2])
       | succ kj10 =>
        have H := HA.out
        clear HA
        simp only [incipitref09_Dest.j2] at H
        by_cases c17 : x37_10 = true
        ·subst c17
         have H1 : (if 0 ≤ x7_2 then (if x7_2 < (a0.size : Int) then (if (bt a0 x7_2) = 40 then (if x7_2 < (t297.length : Int) then (incipitref09_Dest.j3 kj10 a0 t297 x6_2 x7_2 (!(rdOf false t297 x7_2))) else (none)) else (incipitref09_Dest.j3 kj10 a0 t297 x6_2 x7_2 false)) else (none)) else (none)) = some (r1,r2,r3) := by rw [if_pos rfl] at H;exact H
         clear H
         have H := H1
         clear H1
         have HC18 := Aside0.mk H
         clear H
         go_upto_region 7 with (fail)
         go_cut [48] (fun v48 wc => ∃ (kq : Nat) (x48_17 : Bool),v48 = .bool x48_17 ∧ Aside0 (incipitref09_Dest.j3 kq a0 t297 x6_2 x7_2 x48_17 = some (r1,r2,r3)) ∧ Aside0 (kq ≤ kj10) ∧ Aside0 (Kd.R Kd.bool 4 wc w.heap.size (fun _ => True) v298 t297) ∧ Aside0 (Below w.heap.size w wc))
         case first =>
          have H := HC18.out
          clear HC18
          by_cases c19 : 0 ≤ x7_2
          ·rw [if_pos c19] at H
           have c19b0 : decide (0 ≤ x7_2) = true := decide_eq_true c19
           clear c19
           (first | rw [c19b0] | (simp only [i64_w,i32_w];rw [c19b0]) | skip)
           by_cases c20 : x7_2 < (a0.size : Int)
           ·rw [if_pos c20] at H
            have c20b0 : decide (x7_2 < (a0.size : Int)) = true := decide_eq_true c20
            clear c20
            by_cases c22 : (bt a0 x7_2) = 40
            ·rw [if_pos c22] at H
             have c22b0 : ((bt a0 x7_2) == 40) = true := beq_iff_eq.mpr c22
             have c22b1 : ((bt a0 x7_2) != 40) = false := bne_eq_false_iff_eq.mpr c22
             clear c22
             by_cases c23 : x7_2 < (t297.length : Int)
             ·rw [if_pos c23] at H
              have c23b0 : decide (x7_2 < (t297.length : Int)) = true := decide_eq_true c23
              clear c23
              have H' := Aside0.mk H
              clear H
              have p21 : 0 ≤ (x7_2 : Int) := of_decide_eq_true (by first | (with_reducible assumption) | assumption)
              have q21 : x7_2 < (a0.size : Int) := of_decide_eq_true (by first | (with_reducible assumption) | assumption)
              have hx21 := bt_at a0 x7_2
              replace p21 := eq_true p21
              replace q21 := eq_true q21
              obtain ⟨Ao24,co24,eo24⟩ := Kd.R_slice HO_5.out
              subst eo24
              have p301 : 0 ≤ (x7_2 : Int) := of_decide_eq_true (by first | (with_reducible assumption) | assumption)
              have q301 : x7_2 < (t297.length : Int) := of_decide_eq_true (by first | (with_reducible assumption) | assumption)
              obtain ⟨ad301,e301,hx301_0⟩ := Kd.at_bool (Kd.R_reads' HO_5.out).2.2 x7_2 p301 q301
              cases e301
              replace p301 := eq_true p301
              replace q301 := eq_true q301
              go_wp2
              go_meet
              case rel => exact ⟨_,(!(rdOf false t297 x7_2)),(by first | rfl | (simp;done) | (simp [*];done)),H',⟨by have := HJ1.out;have := HK2.out;have := HJ10.out;first | omega | exact Nat.le_refl _⟩,⟨by (with_reducible repeat (first | apply Kd.R_alloc | apply Kd.R_drewN | apply Kd.R_drew));exact HO_5.out⟩,⟨by repeat (first | (with_reducible first | exact HB.out | apply below_alloc | apply pw_below_drewN | apply below_drew1) | exact HB.out)⟩⟩
             ·rw [if_neg c23] at H
              exact absurd H (by simp)
            ·rw [if_neg c22] at H
             have c22b0 : ((bt a0 x7_2) == 40) = false := beq_eq_false_iff_ne.mpr c22
             have c22b1 : ((bt a0 x7_2) != 40) = true := bne_iff_ne.mpr c22
             have H' := Aside0.mk H
             clear H
             have p21 : 0 ≤ (x7_2 : Int) := of_decide_eq_true (by first | (with_reducible assumption) | assumption)
             have q21 : x7_2 < (a0.size : Int) := of_decide_eq_true (by first | (with_reducible assumption) | assumption)
             have hx21 := bt_at a0 x7_2
             replace p21 := eq_true p21
             replace q21 := eq_true q21
             go_wp2
             go_meet
             case rel => exact ⟨_,(false),(by first | rfl | (simp;done) | (simp [*];done)),H',⟨by have := HJ1.out;have := HK2.out;have := HJ10.out;first | omega | exact Nat.le_refl _⟩,⟨by (with_reducible repeat (first | apply Kd.R_alloc | apply Kd.R_drewN | apply Kd.R_drew));exact HO_5.out⟩,⟨by repeat (first | (with_reducible first | exact HB.out | apply below_alloc | apply pw_below_drewN | apply below_drew1) | exact HB.out)⟩⟩
           ·rw [if_neg c20] at H
            exact absurd H (by simp)
          ·rw [if_neg c19] at H
           exact absurd H (by simp)
         case rest =>
          clear HC18
          try clear c1
          try clear p1
          try clear q1
          try clear hx1
          try clear c2
          try clear p2
          try clear q2
          try clear hx2
          try clear c3
          try clear c3b0
          try clear c3b1
          try clear p3
          try clear q3
          try clear hx3
          try clear c4
          try clear c4b0
          try clear c4b1
          try clear c5
          try clear p5
          try clear q5
          try clear hx5
          try clear qi5
          try clear c6
          try clear c12
          try clear c12b0
          try clear c13
          try clear c13b0
          try clear p14
          try clear q14
          try clear hx14
          try clear c15
          try clear c15b0
          try clear p16
          try clear q16
          try clear hx16
          try clear c17
          try clear c19
          try clear c19b0
          try clear c20
          try clear c20b0
          try clear p21
          try clear q21
          try clear hx21
          try clear c22
          try clear c22b0
          try clear c22b1
          try clear c23
          try clear c23b0
          try clear hx301_0
          try clear p1
          try clear p14
          try clear p16
          try clear p2
          try clear p21
          try clear p301
          try clear p5
          try clear q1
          try clear q14
          try clear q16
          try clear q21
          try clear q301
          try clear q5
          obtain ⟨kq,x48_17,rfl,HA,HJ17,HO_5,HB⟩ := hcut
          cases kq with
          | zero => exact absurd HA.out (by simp [incipitref09_Dest.j3])
          | succ kj17 =>
           have H := HA.out
           clear HA
           simp only [incipitref09_Dest.j3] at H
           have HC25 := Aside0.mk H
           clear H
           go_upto_if 48 with (fail)
           go_cut [6] (fun v6 wc => ∃ (kq : Nat) (x6_24 : Int),v6 = .int .i64 x6_24 ∧ Aside0 (incipitref09_Dest.j4 kq a0 t297 x6_24 x7_2 = some (r1,r2,r3)) ∧ Aside0 (kq ≤ kj17) ∧ Aside0 (Kd.R Kd.bool 4 wc w.heap.size (fun _ => True) v298 t297) ∧ Aside0 (Below w.heap.size w wc))
           case first =>
            have H := HC25.out
            clear HC25
            by_cases c26 : x48_17 = true
            ·subst c26
             have H1 : (if (wrap64 (x6_2 + 1)) > 32 then (some ((⟨#[]⟩ : ByteArray),0,false)) else (incipitref09_Dest.j4 kj17 a0 t297 (wrap64 (x6_2 + 1)) x7_2)) = some (r1,r2,r3) := by rw [if_pos rfl] at H;exact H
             clear H
             have H := H1
             clear H1
             by_cases c27 : (wrap64 (x6_2 + 1)) > 32
             ·rw [if_pos c27] at H
              have c27b0 : decide (32 < (wrap64 (x6_2 + 1))) = true := decide_eq_true c27
              clear c27
              (first | rw [c27b0] | (simp only [i64_w,i32_w];rw [c27b0]) | skip)
              simp only [Option.some.injEq,Prod.mk.injEq] at H
              obtain ⟨rfl,rfl,rfl⟩ := H
              go_wp2
              go_ret3
              exact ⟨by first | rfl | exact retNe _ | (simp [errW_none,errW_some] <;> rfl) | (simp [*,errW_none,errW_some] <;> rfl),by repeat (first | (with_reducible first | exact HB.out | apply below_alloc | apply pw_below_drewN | apply below_drew1) | exact HB.out)⟩
             ·rw [if_neg c27] at H
              have c27b0 : decide (32 < (wrap64 (x6_2 + 1))) = false := decide_eq_false c27
              clear c27
              (first | rw [c27b0] | (simp only [i64_w,i32_w];rw [c27b0]) | skip)
              have H' := Aside0.mk H
              clear H
              go_wp2
              go_meet
              case rel => exact ⟨_,(wrap64 (x6_2 + 1)),(by first | rfl | (simp;done) | (simp [*];done)),H',⟨by have := HJ1.out;have := HK2.out;have := HJ10.out;have := HJ17.out;first | omega | exact Nat.le_refl _⟩,⟨by (with_reducible repeat (first | apply Kd.R_alloc | apply Kd.R_drewN | apply Kd.R_drew));exact HO_5.out⟩,⟨by repeat (first | (with_reducible first | exact HB.out | apply below_alloc | apply pw_below_drewN | apply below_drew1) | exact HB.out)⟩⟩
            ·replace c26 := Bool.eq_false_iff.mpr c26
             subst c26
             have H1 : (incipitref09_Dest.j4 kj17 a0 t297 x6_2 x7_2) = some (r1,r2,r3) := by rw [if_neg (show ¬ (false = true) by decide)] at H;exact H
             clear H
             have H := H1
             clear H1
             have H' := Aside0.mk H
             clear H
             go_wp2
             go_meet
             case rel => exact ⟨_,(x6_2),(by first | rfl | (simp;done) | (simp [*];done)),H',⟨by have := HJ1.out;have := HK2.out;have := HJ10.out;have := HJ17.out;first | omega | exact Nat.le_refl _⟩,⟨by (with_reducible repeat (first | apply Kd.R_alloc | apply Kd.R_drewN | apply Kd.R_drew));exact HO_5.out⟩,⟨by repeat (first | (with_reducible first | exact HB.out | apply below_alloc | apply pw_below_drewN | apply below_drew1) | exact HB.out)⟩⟩
           case rest =>
            clear HC25
            try clear c1
            try clear p1
            try clear q1
            try clear hx1
            try clear c2
            try clear p2
            try clear q2
            try clear hx2
            try clear c3
            try clear c3b0
            try clear c3b1
            try clear p3
            try clear q3
            try clear hx3
            try clear c4
            try clear c4b0
            try clear c4b1
            try clear c5
            try clear p5
            try clear q5
            try clear hx5
            try clear qi5
            try clear c6
            try clear p6
            try clear c12
            try clear c12b0
            try clear c13
            try clear c13b0
            try clear p14
            try clear q14
            try clear hx14
            try clear c15
            try clear c15b0
            try clear p16
            try clear q16
            try clear hx16
            try clear c17
            try clear c19
            try clear c19b0
            try clear c20
            try clear c20b0
            try clear p21
            try clear q21
            try clear hx21
            try clear c22
            try clear c22b0
            try clear c22b1
            try clear c23
            try clear c23b0
            try clear c26
            try clear c27
            try clear c27b0
            try clear hx301_0
            try clear p1
            try clear p14
            try clear p16
            try clear p2
            try clear p21
            try clear p3
            try clear p301
            try clear p5
            try clear q1
            try clear q14
            try clear q16
            try clear q2
            try clear q21
            try clear q3
            try clear q301
            try clear q5
            obtain ⟨kq,x6_24,rfl,HA,HJ24,HO_5,HB⟩ := hcut
            cases kq with
            | zero => exact absurd HA.out (by simp [incipitref09_Dest.j4])
            | succ kj24 =>
             have H := HA.out
             clear HA
             simp only [incipitref09_Dest.j4] at H
             have HC28 := Aside0.mk H
             clear H
             go_upto_region 11 with (fail)
             go_cut [63] (fun v63 wc => ∃ (kq : Nat) (x63_27 : Bool),v63 = .bool x63_27 ∧ Aside0 (incipitref09_Dest.j5 kq a0 t297 x6_24 x7_2 x63_27 = some (r1,r2,r3)) ∧ Aside0 (kq ≤ kj24) ∧ Aside0 (Kd.R Kd.bool 4 wc w.heap.size (fun _ => True) v298 t297) ∧ Aside0 (Below w.heap.size w wc))
             case first =>
              have H := HC28.out
              clear HC28
              by_cases c29 : 0 ≤ x7_2
              ·rw [if_pos c29] at H
               have c29b0 : decide (0 ≤ x7_2) = true := decide_eq_true c29
               clear c29
               (first | rw [c29b0] | (simp only [i64_w,i32_w];rw [c29b0]) | skip)
               by_cases c30 : x7_2 < (a0.size : Int)
               ·rw [if_pos c30] at H
                have c30b0 : decide (x7_2 < (a0.size : Int)) = true := decide_eq_true c30
                clear c30
                by_cases c32 : (bt a0 x7_2) = 41
                ·rw [if_pos c32] at H
                 have c32b0 : ((bt a0 x7_2) == 41) = true := beq_iff_eq.mpr c32
                 have c32b1 : ((bt a0 x7_2) != 41) = false := bne_eq_false_iff_eq.mpr c32
                 clear c32
                 by_cases c33 : x7_2 < (t297.length : Int)
                 ·rw [if_pos c33] at H
                  have c33b0 : decide (x7_2 < (t297.length : Int)) = true := decide_eq_true c33
                  clear c33
                  have H' := Aside0.mk H
                  clear H
                  have p31 : 0 ≤ (x7_2 : Int) := of_decide_eq_true (by first | (with_reducible assumption) | assumption)
                  have q31 : x7_2 < (a0.size : Int) := of_decide_eq_true (by first | (with_reducible assumption) | assumption)
                  have hx31 := bt_at a0 x7_2
                  replace p31 := eq_true p31
                  replace q31 := eq_true q31
                  obtain ⟨Ao34,co34,eo34⟩ := Kd.R_slice HO_5.out
                  subst eo34
                  have p302 : 0 ≤ (x7_2 : Int) := of_decide_eq_true (by first | (with_reducible assumption) | assumption)
                  have q302 : x7_2 < (t297.length : Int) := of_decide_eq_true (by first | (with_reducible assumption) | assumption)
                  obtain ⟨ad302,e302,hx302_0⟩ := Kd.at_bool (Kd.R_reads' HO_5.out).2.2 x7_2 p302 q302
                  cases e302
                  replace p302 := eq_true p302
                  replace q302 := eq_true q302
                  go_wp2
                  go_meet
                  case rel => exact ⟨_,(!(rdOf false t297 x7_2)),(by first | rfl | (simp;done) | (simp [*];done)),H',⟨by have := HJ1.out;have := HK2.out;have := HJ10.out;have := HJ17.out;have := HJ24.out;first | omega | exact Nat.le_refl _⟩,⟨by (with_reducible repeat (first | apply Kd.R_alloc | apply Kd.R_drewN | apply Kd.R_drew));exact HO_5.out⟩,⟨by repeat (first | (with_reducible first | exact HB.out | apply below_alloc | apply pw_below_drewN | apply below_drew1) | exact HB.out)⟩⟩
                 ·rw [if_neg c33] at H
                  exact absurd H (by simp)
                ·rw [if_neg c32] at H
                 have c32b0 : ((bt a0 x7_2) == 41) = false := beq_eq_false_iff_ne.mpr c32
                 have c32b1 : ((bt a0 x7_2) != 41) = true := bne_iff_ne.mpr c32
                 have H' := Aside0.mk H
                 clear H
                 have p31 : 0 ≤ (x7_2 : Int) := of_decide_eq_true (by first | (with_reducible assumption) | assumption)
                 have q31 : x7_2 < (a0.size : Int) := of_decide_eq_true (by first | (with_reducible assumption) | assumption)
                 have hx31 := bt_at a0 x7_2
                 replace p31 := eq_true p31
                 replace q31 := eq_true q31
                 go_wp2
                 go_meet
                 case rel => exact ⟨_,(false),(by first | rfl | (simp;done) | (simp [*];done)),H',⟨by have := HJ1.out;have := HK2.out;have := HJ10.out;have := HJ17.out;have := HJ24.out;first | omega | exact Nat.le_refl _⟩,⟨by (with_reducible repeat (first | apply Kd.R_alloc | apply Kd.R_drewN | apply Kd.R_drew));exact HO_5.out⟩,⟨by repeat (first | (with_reducible first | exact HB.out | apply below_alloc | apply pw_below_drewN | apply below_drew1) | exact HB.out)⟩⟩
               ·rw [if_neg c30] at H
                exact absurd H (by simp)
              ·rw [if_neg c29] at H
               exact absurd H (by simp)
             case rest =>
              clear HC28
              try clear c1
              try clear p1
              try clear q1
              try clear hx1
              try clear c2
              try clear p2
              try clear q2
              try clear hx2
              try clear c3
              try clear c3b0
              try clear c3b1
              try clear p3
              try clear q3
              try clear hx3
              try clear c4
              try clear c4b0
              try clear c4b1
              try clear c5
              try clear p5
              try clear q5
              try clear hx5
              try clear qi5
              try clear c6
              try clear p6
              try clear c12
              try clear c12b0
              try clear c13
              try clear c13b0
              try clear p14
              try clear q14
              try clear hx14
              try clear c15
              try clear c15b0
              try clear p16
              try clear q16
              try clear hx16
              try clear c17
              try clear c19
              try clear c19b0
              try clear c20
              try clear c20b0
              try clear p21
              try clear q21
              try clear hx21
              try clear c22
              try clear c22b0
              try clear c22b1
              try clear c23
              try clear c23b0
              try clear c26
              try clear c27
              try clear c27b0
              try clear c29
              try clear c29b0
              try clear c30
              try clear c30b0
              try clear p30
              try clear q30
              try clear hx30
              try clear p31
              try clear q31
              try clear hx31
              try clear c32
              try clear c32b0
              try clear c32b1
              try clear c33
              try clear c33b0
              try clear c34
              try clear hx301_0
              try clear hx302_0
              try clear p1
              try clear p14
              try clear p16
              try clear p2
              try clear p21
              try clear p3
              try clear p301
              try clear p302
              try clear p31
              try clear p5
              try clear p6
              try clear q1
              try clear q14
              try clear q16
              try clear q2
              try clear q21
              try clear q3
              try clear q301
              try clear q302
              try clear q31
              try clear q5
              obtain ⟨kq,x63_27,rfl,HA,HJ27,HO_5,HB⟩ := hcut
              cases kq with
              | zero => exact absurd HA.out (by simp [incipitref09_Dest.j5])
              | succ kj27 =>
               have H := HA.out
               clear HA
               simp only [incipitref09_Dest.j5] at H
               by_cases c35 : x63_27 = true
               ·subst c35
                have H1 : (if x6_24 = 0 then (if x7_2 = 0 then (some ((⟨#[]⟩ : ByteArray),0,false)) else (if x6_24 > 0 then (some ((⟨#[]⟩ : ByteArray),0,false)) else (if 0 ≤ x7_2 then (if x7_2 ≤ (a0.size : Int) then ((incipitref05_Unescape.f kj27 (a0.extract 0 (x7_2 : Int).toNat)).bind fun t303 => (some (t303,x7_2,true))) else (none)) else (none)))) else (incipitref09_Dest.l0 kj27 a0 t297 (wrap64 (x6_24 - 1)) (wrap64 (x7_2 + 1)))) = some (r1,r2,r3) := by rw [if_pos rfl] at H;exact H
                clear H
                have H := H1
                clear H1
                by_cases c36 : x6_24 = 0
                ·rw [if_pos c36] at H
                 have c36b0 : (x6_24 == 0) = true := beq_iff_eq.mpr c36
                 have c36b1 : (x6_24 != 0) = false := bne_eq_false_iff_eq.mpr c36
                 clear c36
                 by_cases c37 : x7_2 = 0
                 ·rw [if_pos c37] at H
                  have c37b0 : (x7_2 == 0) = true := beq_iff_eq.mpr c37
                  have c37b1 : (x7_2 != 0) = false := bne_eq_false_iff_eq.mpr c37
                  clear c37
                  simp only [Option.some.injEq,Prod.mk.injEq] at H
                  obtain ⟨rfl,rfl,rfl⟩ := H
                  go_wp2
                  go_ret3
                  exact ⟨by first | rfl | exact retNe _ | (simp [errW_none,errW_some] <;> rfl) | (simp [*,errW_none,errW_some] <;> rfl),by repeat (first | (with_reducible first | exact HB.out | apply below_alloc | apply pw_below_drewN | apply below_drew1) | exact HB.out)⟩
                 ·rw [if_neg c37] at H
                  have c37b0 : (x7_2 == 0) = false := beq_eq_false_iff_ne.mpr c37
                  have c37b1 : (x7_2 != 0) = true := bne_iff_ne.mpr c37
                  by_cases c38 : x6_24 > 0
                  ·rw [if_pos c38] at H
                   have c38b0 : decide (0 < x6_24) = true := decide_eq_true c38
                   clear c38
                   simp only [Option.some.injEq,Prod.mk.injEq] at H
                   obtain ⟨rfl,rfl,rfl⟩ := H
                   go_wp2
                   go_ret3
                   exact ⟨by first | rfl | exact retNe _ | (simp [errW_none,errW_some] <;> rfl) | (simp [*,errW_none,errW_some] <;> rfl),by repeat (first | (with_reducible first | exact HB.out | apply below_alloc | apply pw_below_drewN | apply below_drew1) | exact HB.out)⟩
                  ·rw [if_neg c38] at H
                   have c38b0 : decide (0 < x6_24) = false := decide_eq_false c38
                   clear c38
                   by_cases c39 : 0 ≤ x7_2
                   ·rw [if_pos c39] at H
                    have c39b0 := eq_true c39
                    have c39b1 : decide (0 ≤ x7_2) = true := decide_eq_true c39
                    clear c39
                    by_cases c40 : x7_2 ≤ (a0.size : Int)
                    ·rw [if_pos c40] at H
                     have c40b0 := eq_true c40
                     have c40b1 : decide (x7_2 ≤ (a0.size : Int)) = true := decide_eq_true c40
                     clear c40
                     replace H := Option.bind_eq_some_iff.mp H
                     obtain ⟨t303,A410,H⟩ := H
                     (try dsimp only at H)
                     have A41 := Aside0.mk A410
                     clear A410
                     simp only [Option.some.injEq,Prod.mk.injEq] at H
                     obtain ⟨rfl,rfl,rfl⟩ := H
                     go_wp2_with (first | ((with_reducible refine gate_callee (f := 59) rfl ?_);refine goesL_ (some 79) rfl rfl Tryz.func59 (by kernel_rfl) rfl #[.string (a0.extract 0 (x7_2 : Int).toNat)] rfl (by (try simp only [List.map_toArray,List.map_cons,List.map_nil]);try rfl) ?_;(with_reducible refine (incipitref05_Unescape.calls kj27 (a0.extract 0 (x7_2 : Int).toNat) t303 _ A41.out).mono ?_);rintro e w42 ⟨rfl,hb⟩;refine ⟨_,rfl,?_⟩;have n0_ := Aside0.mk (Kd.R_below (by (with_reducible repeat (first | apply Kd.R_alloc | apply Kd.R_drewN | apply Kd.R_drew));exact HO_5.out) hb);have n1_ := Aside0.mk (below_step HB.out hb);clear HO_5;clear HB;have HO_5 := n0_;have HB := n1_;clear n0_ n1_))
                     go_ret3
                     exact ⟨by first | rfl | exact retNe _ | (simp [errW_none,errW_some] <;> rfl) | (simp [*,errW_none,errW_some] <;> rfl),by repeat (first | (with_reducible first | exact HB.out | apply below_alloc | apply pw_below_drewN | apply below_drew1) | exact HB.out)⟩
                    ·rw [if_neg c40] at H
                     exact absurd H (by simp)
                   ·rw [if_neg c39] at H
                    exact absurd H (by simp)
                ·rw [if_neg c36] at H
                 have c36b0 : (x6_24 == 0) = false := beq_eq_false_iff_ne.mpr c36
                 have c36b1 : (x6_24 != 0) = true := bne_iff_ne.mpr c36
                 have H' := Aside0.mk H
                 clear H
                 go_wp2
                 go_roundg kj27
                 case measure => have := HJ1.out;have := HK2.out;have := HJ10.out;have := HJ17.out;have := HJ24.out;have := HJ27.out;omega
                 case rel => exact ⟨(wrap64 (x6_24 - 1)),(wrap64 (x7_2 + 1)),(by first | rfl | (simp;done) | (simp [*];done)),(by first | rfl | (simp;done) | (simp [*];done)),H',⟨by have := HJ1.out;have := HK2.out;have := HJ10.out;have := HJ17.out;have := HJ24.out;have := HJ27.out;omega⟩,⟨by (with_reducible repeat (first | apply Kd.R_alloc | apply Kd.R_drewN | apply Kd.R_drew));exact HO_5.out⟩,⟨by repeat (first | (with_reducible first | exact HB.out | apply below_alloc | apply pw_below_drewN | apply below_drew1) | exact HB.out)⟩⟩
               ·replace c35 := Bool.eq_false_iff.mpr c35
                subst c35
                have H1 : (incipitref09_Dest.l0 kj27 a0 t297 x6_24 (wrap64 (x7_2 + 1))) = some (r1,r2,r3) := by rw [if_neg (show ¬ (false = true) by decide)] at H;exact H
                clear H
                have H := H1
                clear H1
                have H' := Aside0.mk H
                clear H
                go_wp2
                go_roundg kj27
                case measure => have := HJ1.out;have := HK2.out;have := HJ10.out;have := HJ17.out;have := HJ24.out;have := HJ27.out;omega
                case rel => exact ⟨(x6_24),(wrap64 (x7_2 + 1)),(by first | rfl | (simp;done) | (simp [*];done)),(by first | rfl | (simp;done) | (simp [*];done)),H',⟨by have := HJ1.out;have := HK2.out;have := HJ10.out;have := HJ17.out;have := HJ24.out;have := HJ27.out;omega⟩,⟨by (with_reducible repeat (first | apply Kd.R_alloc | apply Kd.R_drewN | apply Kd.R_drew));exact HO_5.out⟩,⟨by repeat (first | (with_reducible first | exact HB.out | apply below_alloc | apply pw_below_drewN | apply below_drew1) | exact HB.out)⟩⟩
        ·replace c17 := Bool.eq_false_iff.mpr c17
         subst c17
         have H1 : (if x7_2 = 0 then (some ((⟨#[]⟩ : ByteArray),0,false)) else (if x6_2 > 0 then (some ((⟨#[]⟩ : ByteArray),0,false)) else (if 0 ≤ x7_2 then (if x7_2 ≤ (a0.size : Int) then ((incipitref05_Unescape.f kj10 (a0.extract 0 (x7_2 : Int).toNat)).bind fun t300 => (some (t300,x7_2,true))) else (none)) else (none)))) = some (r1,r2,r3) := by rw [if_neg (show ¬ (false = true) by decide)] at H;exact H
         clear H
         have H := H1
         clear H1
         by_cases c43 : x7_2 = 0
         ·rw [if_pos c43] at H
          have c43b0 : (x7_2 == 0) = true := beq_iff_eq.mpr c43
          have c43b1 : (x7_2 != 0) = false := bne_eq_false_iff_eq.mpr c43
          clear c43
          simp only [Option.some.injEq,Prod.mk.injEq] at H
          obtain ⟨rfl,rfl,rfl⟩ := H
          go_wp2
          go_ret3
          exact ⟨by first | rfl | exact retNe _ | (simp [errW_none,errW_some] <;> rfl) | (simp [*,errW_none,errW_some] <;> rfl),by repeat (first | (with_reducible first | exact HB.out | apply below_alloc | apply pw_below_drewN | apply below_drew1) | exact HB.out)⟩
         ·rw [if_neg c43] at H
          have c43b0 : (x7_2 == 0) = false := beq_eq_false_iff_ne.mpr c43
          have c43b1 : (x7_2 != 0) = true := bne_iff_ne.mpr c43
          by_cases c44 : x6_2 > 0
          ·rw [if_pos c44] at H
           have c44b0 : decide (0 < x6_2) = true := decide_eq_true c44
           clear c44
           simp only [Option.some.injEq,Prod.mk.injEq] at H
           obtain ⟨rfl,rfl,rfl⟩ := H
           go_wp2
           go_ret3
           exact ⟨by first | rfl | exact retNe _ | (simp [errW_none,errW_some] <;> rfl) | (simp [*,errW_none,errW_some] <;> rfl),by repeat (first | (with_reducible first | exact HB.out | apply below_alloc | apply pw_below_drewN | apply below_drew1) | exact HB.out)⟩
          ·rw [if_neg c44] at H
           have c44b0 : decide (0 < x6_2) = false := decide_eq_false c44
           clear c44
           by_cases c45 : 0 ≤ x7_2
           ·rw [if_pos c45] at H
            have c45b0 := eq_true c45
            have c45b1 : decide (0 ≤ x7_2) = true := decide_eq_true c45
            clear c45
            by_cases c46 : x7_2 ≤ (a0.size : Int)
            ·rw [if_pos c46] at H
             have c46b0 := eq_true c46
             have c46b1 : decide (x7_2 ≤ (a0.size : Int)) = true := decide_eq_true c46
             clear c46
             replace H := Option.bind_eq_some_iff.mp H
             obtain ⟨t300,A470,H⟩ := H
             (try dsimp only at H)
             have A47 := Aside0.mk A470
             clear A470
             simp only [Option.some.injEq,Prod.mk.injEq] at H
             obtain ⟨rfl,rfl,rfl⟩ := H
             go_wp2_with (first | ((with_reducible refine gate_callee (f := 59) rfl ?_);refine goesL_ (some 79) rfl rfl Tryz.func59 (by kernel_rfl) rfl #[.string (a0.extract 0 (x7_2 : Int).toNat)] rfl (by (try simp only [List.map_toArray,List.map_cons,List.map_nil]);try rfl) ?_;(with_reducible refine (incipitref05_Unescape.calls kj10 (a0.extract 0 (x7_2 : Int).toNat) t300 _ A47.out).mono ?_);rintro e w48 ⟨rfl,hb⟩;refine ⟨_,rfl,?_⟩;have n0_ := Aside0.mk (Kd.R_below (by (with_reducible repeat (first | apply Kd.R_alloc | apply Kd.R_drewN | apply Kd.R_drew));exact HO_5.out) hb);have n1_ := Aside0.mk (below_step HB.out hb);clear HO_5;clear HB;have HO_5 := n0_;have HB := n1_;clear n0_ n1_))
             go_ret3
             exact ⟨by first | rfl | exact retNe _ | (simp [errW_none,errW_some] <;> rfl) | (simp [*,errW_none,errW_some] <;> rfl),by repeat (first | (with_reducible first | exact HB.out | apply below_alloc | apply pw_below_drewN | apply below_drew1) | exact HB.out)⟩
            ·rw [if_neg c46] at H
             exact absurd H (by simp)
           ·rw [if_neg c45] at H
            exact absurd H (by simp)

end Go.Proofs.YtekifcbokdidlaaGreatDoor.PA

namespace Go.Proofs.YtekifcbokdidlaaGreatDoor.PA
open Go.RowKit Go.Proofs.YtekifcbokdidlaaGreatDoorW.PrintWords Go.Proofs.YtekifcbokdidlaaGreatDoorW.PrintLast Go.Proofs.YtekifcbokdidlaaGreatDoorW.PrintMore
attribute [local go_sem] max2_int min2_int max_two min_two max_three min_three max_four min_four   -- for this text's walks alone
set_option linter.unusedVariables false
set_option linter.unusedSimpArgs false

/-! ### incipitref10_end: function 36 -/
mutual
def incipitref10_end.j1 : Nat → ByteArray → Int → Option (Int)
 | 0,_,_ => none
 | k + 1,x0,x3 => if x3 = (x0.size : Int) then (some x3) else (if 0 ≤ x3 then (if x3 < (x0.size : Int) then (if (bt x0 x3) = 10 then (some (wrap64 (x3 + 1))) else (some (-1))) else (none)) else (none))
def incipitref10_end.l0 : Nat → ByteArray → Int → Option (Int)
 | 0,_,_ => none
 | k + 1,x0,x3 => if x3 < (x0.size : Int) then (if 0 ≤ x3 then (if (bt x0 x3) = 32 then (incipitref10_end.l0 k x0 (wrap64 (x3 + 1))) else (if (bt x0 x3) = 9 then (incipitref10_end.l0 k x0 (wrap64 (x3 + 1))) else (incipitref10_end.j1 k x0 x3))) else (none)) else (incipitref10_end.j1 k x0 x3)
end
def incipitref10_end.f (k : Nat) (a0 : ByteArray) : Option (Int) := incipitref10_end.l0 k a0 0
set_option maxHeartbeats 8000000 in
set_option maxRecDepth 100000 in
theorem incipitref10_end.calls (k : Nat) (a0 : ByteArray) (r : Int) (w : World) (h : incipitref10_end.f k a0 = some r) :
  Calls Tryz.prog 36 #[.string a0] w fun e w' => e = .returned (.int .i64 r) ∧ Drawn0 w w' := by
 have H : (incipitref10_end.l0 k a0 0) = some r := h
 clear h
 have HC2 := Aside0.mk H
 clear H
 go_enter Tryz.func36,Tryz.ntmps36
 go_upto_block 0 with (fail)
 go_cut [3] (fun v3 wc => ∃ (kq : Nat) (x3_1 : Int),v3 = .int .i64 x3_1 ∧ Aside0 (incipitref10_end.j1 kq a0 x3_1 = some r) ∧ Aside0 (kq ≤ k) ∧ Drawn0 w wc)
 case first =>
  have H := HC2.out
  clear HC2
  have H' := Aside0.mk H
  clear H
  go_wp2
  go_loopg [3] k (fun kq v3 w' => ∃ (x3_1 : Int),v3 = .int .i64 x3_1 ∧ Aside0 (incipitref10_end.l0 kq a0 x3_1 = some r) ∧ Aside0 (kq ≤ k) ∧ Drawn0 w w')
  case atStart => exact ⟨(0),(by first | rfl | (simp;done) | (simp [*];done)),H',⟨Nat.le_refl _⟩,by repeat (first | exact Drawn0.refl _ | apply Drawn0.step)⟩
  case round =>
   clear H'
   try clear p2
   obtain ⟨x3_1,rfl,HA,HK1,⟨m1,rfl⟩⟩ := hrel
   cases gk with
   | zero => exact absurd HA.out (by simp [incipitref10_end.l0])
   | succ k1 =>
    have H := HA.out
    clear HA
    simp only [incipitref10_end.l0] at H
    by_cases c3 : x3_1 < (a0.size : Int)
    ·rw [if_pos c3] at H
     have c3b0 : decide (x3_1 < (a0.size : Int)) = true := decide_eq_true c3
     clear c3
     (first | rw [c3b0] | (simp only [i64_w,i32_w];rw [c3b0]) | skip)
     by_cases c4 : 0 ≤ x3_1
     ·rw [if_pos c4] at H
      have c4b0 : decide (0 ≤ x3_1) = true := decide_eq_true c4
      clear c4
      by_cases c6 : (bt a0 x3_1) = 32
      ·rw [if_pos c6] at H
       have c6b0 : ((bt a0 x3_1) == 32) = true := beq_iff_eq.mpr c6
       have c6b1 : ((bt a0 x3_1) != 32) = false := bne_eq_false_iff_eq.mpr c6
       clear c6
       have H' := Aside0.mk H
       clear H
       have p5 : 0 ≤ (x3_1 : Int) := of_decide_eq_true (by first | (with_reducible assumption) | assumption)
       have q5 : x3_1 < (a0.size : Int) := of_decide_eq_true (by first | (with_reducible assumption) | assumption)
       have hx5 := bt_at a0 x3_1
       replace p5 := eq_true p5
       replace q5 := eq_true q5
       go_wp2
       go_roundg k1
       case measure => have := HK1.out;omega
       case rel => exact ⟨(wrap64 (x3_1 + 1)),(by first | rfl | (simp;done) | (simp [*];done)),H',⟨by have := HK1.out;omega⟩,by repeat (first | exact Drawn0.refl _ | apply Drawn0.step)⟩
      ·rw [if_neg c6] at H
       have c6b0 : ((bt a0 x3_1) == 32) = false := beq_eq_false_iff_ne.mpr c6
       have c6b1 : ((bt a0 x3_1) != 32) = true := bne_iff_ne.mpr c6
       by_cases c8 : (bt a0 x3_1) = 9
       ·rw [if_pos c8] at H
        have c8b0 : ((bt a0 x3_1) == 9) = true := beq_iff_eq.mpr c8
        have c8b1 : ((bt a0 x3_1) != 9) = false := bne_eq_false_iff_eq.mpr c8
        clear c8
        have H' := Aside0.mk H
        clear H
        have p5 : 0 ≤ (x3_1 : Int) := of_decide_eq_true (by first | (with_reducible assumption) | assumption)
        have q5 : x3_1 < (a0.size : Int) := of_decide_eq_true (by first | (with_reducible assumption) | assumption)
        have hx5 := bt_at a0 x3_1
        replace p5 := eq_true p5
        replace q5 := eq_true q5
        have p7 : 0 ≤ (x3_1 : Int) := of_decide_eq_true (by first | (with_reducible assumption) | assumption)
        have q7 : x3_1 < (a0.size : Int) := of_decide_eq_true (by first | (with_reducible assumption) | assumption)
        have hx7 := bt_at a0 x3_1
        replace p7 := eq_true p7
        replace q7 := eq_true q7
        go_wp2
        go_roundg k1
        case measure => have := HK1.out;omega
        case rel => exact ⟨(wrap64 (x3_1 + 1)),(by first | rfl | (simp;done) | (simp [*];done)),H',⟨by have := HK1.out;omega⟩,by repeat (first | exact Drawn0.refl _ | apply Drawn0.step)⟩
       ·rw [if_neg c8] at H
        have c8b0 : ((bt a0 x3_1) == 9) = false := beq_eq_false_iff_ne.mpr c8
        have c8b1 : ((bt a0 x3_1) != 9) = true := bne_iff_ne.mpr c8
        have H' := Aside0.mk H
        clear H
        have p5 : 0 ≤ (x3_1 : Int) := of_decide_eq_true (by first | (with_reducible assumption) | assumption)
        have q5 : x3_1 < (a0.size : Int) := of_decide_eq_true (by first | (with_reducible assumption) | assumption)
        have hx5 := bt_at a0 x3_1
        replace p5 := eq_true p5
        replace q5 := eq_true q5
        have p7 : 0 ≤ (x3_1 : Int) := of_decide_eq_true (by first | (with_reducible assumption) | assumption)
        have q7 : x3_1 < (a0.size : Int) := of_decide_eq_true (by first | (with_reducible assumption) | assumption)
        have hx7 := bt_at a0 x3_1
        replace p7 := eq_true p7
        replace q7 := eq_true q7
        go_wp2
        go_meet
        case rel => exact ⟨_,(x3_1),(by first | rfl | (simp;done) | (simp [*];done)),H',⟨by have := HK1.out;first | omega | exact Nat.le_refl _⟩,by repeat (first | exact Drawn0.refl _ | apply Drawn0.step)⟩
     ·rw [if_neg c4] at H
      exact absurd H (by simp)
    ·rw [if_neg c3] at H
     have c3b0 : decide (x3_1 < (a0.size : Int)) = false := decide_eq_false c3
     clear c3
     (first | rw [c3b0] | (simp only [i64_w,i32_w];rw [c3b0]) | skip)
     have H' := Aside0.mk H
     clear H
     go_wp2
     go_meet
     case rel => exact ⟨_,(x3_1),(by first | rfl | (simp;done) | (simp [*];done)),H',⟨by have := HK1.out;first | omega | exact Nat.le_refl _⟩,by repeat (first | exact Drawn0.refl _ | apply Drawn0.step)⟩
 case rest =>
  clear HC2
  try clear p2
  try clear c3
  try clear c3b0
  try clear c4
  try clear c4b0
  try clear p5
  try clear q5
  try clear hx5
  try clear c6
  try clear c6b0
  try clear c6b1
  try clear p6
  try clear p7
  try clear q7
  try clear hx7
  try clear c8
  try clear c8b0
  try clear c8b1
  try clear p2
  try clear p5
  try clear p7
  try clear q5
  try clear q7
  obtain ⟨kq,x3_1,rfl,HA,HJ1,⟨mc1,rfl⟩⟩ := hcut
  cases kq with
  | zero => exact absurd HA.out (by simp [incipitref10_end.j1])
  | succ kj1 =>
   have H := HA.out
   clear HA
   simp only [incipitref10_end.j1] at H
   by_cases c9 : x3_1 = (a0.size : Int)
   ·rw [if_pos c9] at H
    have c9b0 : (x3_1 == (a0.size : Int)) = true := beq_iff_eq.mpr c9
    have c9b1 : (x3_1 != (a0.size : Int)) = false := bne_eq_false_iff_eq.mpr c9
    clear c9
    obtain rfl := Option.some.inj H
    go_wp2
    go_ret
    exact ⟨by first | rfl | (simp;done) | (simp [*];done),by repeat (first | exact Drawn0.refl _ | apply Drawn0.step)⟩
   ·rw [if_neg c9] at H
    have c9b0 : (x3_1 == (a0.size : Int)) = false := beq_eq_false_iff_ne.mpr c9
    have c9b1 : (x3_1 != (a0.size : Int)) = true := bne_iff_ne.mpr c9
    by_cases c10 : 0 ≤ x3_1
    ·rw [if_pos c10] at H
     have c10b0 : decide (0 ≤ x3_1) = true := decide_eq_true c10
     clear c10
     by_cases c11 : x3_1 < (a0.size : Int)
     ·rw [if_pos c11] at H
      have c11b0 : decide (x3_1 < (a0.size : Int)) = true := decide_eq_true c11
      clear c11
      by_cases c13 : (bt a0 x3_1) = 10
      ·rw [if_pos c13] at H
       have c13b0 : ((bt a0 x3_1) == 10) = true := beq_iff_eq.mpr c13
       have c13b1 : ((bt a0 x3_1) != 10) = false := bne_eq_false_iff_eq.mpr c13
       clear c13
       obtain rfl := Option.some.inj H
       have p12 : 0 ≤ (x3_1 : Int) := of_decide_eq_true (by first | (with_reducible assumption) | assumption)
       have q12 : x3_1 < (a0.size : Int) := of_decide_eq_true (by first | (with_reducible assumption) | assumption)
       have hx12 := bt_at a0 x3_1
       replace p12 := eq_true p12
       replace q12 := eq_true q12
       go_wp2
       go_ret
       exact ⟨by first | rfl | (simp;done) | (simp [*];done),by repeat (first | exact Drawn0.refl _ | apply Drawn0.step)⟩
      ·rw [if_neg c13] at H
       have c13b0 : ((bt a0 x3_1) == 10) = false := beq_eq_false_iff_ne.mpr c13
       have c13b1 : ((bt a0 x3_1) != 10) = true := bne_iff_ne.mpr c13
       obtain rfl := Option.some.inj H
       have p12 : 0 ≤ (x3_1 : Int) := of_decide_eq_true (by first | (with_reducible assumption) | assumption)
       have q12 : x3_1 < (a0.size : Int) := of_decide_eq_true (by first | (with_reducible assumption) | assumption)
       have hx12 := bt_at a0 x3_1
       replace p12 := eq_true p12
       replace q12 := eq_true q12
       go_wp2
       go_ret
       exact ⟨by first | rfl | (simp;done) | (simp [*];done),by repeat (first | exact Drawn0.refl _ | apply Drawn0.step)⟩
     ·rw [if_neg c11] at H
      exact absurd H (by simp)
    ·rw [if_neg c10] at H
     exact absurd H (by simp)

/-! ### incipitref09_gap: function 88 -/
mutual
def incipitref09_gap.l0 : Nat → ByteArray → Int → Option (Bool)
 | 0,_,_ => none
 | k + 1,x0,x3 => if x3 < (x0.size : Int) then (if 0 ≤ x3 then (if (bt x0 x3) = 10 then (incipitref09_gap.l1 k x0 x3 (wrap64 (x3 + 1))) else (incipitref09_gap.l0 k x0 (wrap64 (x3 + 1)))) else (none)) else (some false)
def incipitref09_gap.l1 : Nat → ByteArray → Int → Int → Option (Bool)
 | 0,_,_,_ => none
 | k + 1,x0,x3,x4 => if x4 < (x0.size : Int) then (if 0 ≤ x4 then (if (bt x0 x4) = 32 then (incipitref09_gap.l1 k x0 x3 (wrap64 (x4 + 1))) else (if (bt x0 x4) = 9 then (incipitref09_gap.l1 k x0 x3 (wrap64 (x4 + 1))) else (if (bt x0 x4) = 10 then (some true) else (incipitref09_gap.l0 k x0 (wrap64 (x3 + 1)))))) else (none)) else (incipitref09_gap.l0 k x0 (wrap64 (x3 + 1)))
end
def incipitref09_gap.f (k : Nat) (a0 : ByteArray) : Option (Bool) := incipitref09_gap.l0 k a0 0
set_option maxHeartbeats 8000000 in
set_option maxRecDepth 100000 in
theorem incipitref09_gap.calls (k : Nat) (a0 : ByteArray) (r : Bool) (w : World) (h : incipitref09_gap.f k a0 = some r) :
  Calls Tryz.prog 88 #[.string a0] w fun e w' => e = .returned (.bool r) ∧ Drawn0 w w' := by
 have H : (incipitref09_gap.l0 k a0 0) = some r := h
 clear h
 have H' := Aside0.mk H
 clear H
 go_enter Tryz.func88,Tryz.ntmps88
 go_wp2
 go_loopg [3] k (fun kq v3 w' => ∃ (x3_1 : Int),v3 = .int .i64 x3_1 ∧ Aside0 (incipitref09_gap.l0 kq a0 x3_1 = some r) ∧ Aside0 (kq ≤ k) ∧ Drawn0 w w')
 case atStart => exact ⟨(0),(by first | rfl | (simp;done) | (simp [*];done)),H',⟨Nat.le_refl _⟩,by repeat (first | exact Drawn0.refl _ | apply Drawn0.step)⟩
 case round =>
  clear H'
  obtain ⟨x3_1,rfl,HA,HK1,⟨m1,rfl⟩⟩ := hrel
  cases gk with
  | zero => exact absurd HA.out (by simp [incipitref09_gap.l0])
  | succ k1 =>
   have H := HA.out
   clear HA
   simp only [incipitref09_gap.l0] at H
   by_cases c2 : x3_1 < (a0.size : Int)
   ·rw [if_pos c2] at H
    have c2b0 : decide (x3_1 < (a0.size : Int)) = true := decide_eq_true c2
    clear c2
    by_cases c3 : 0 ≤ x3_1
    ·rw [if_pos c3] at H
     have c3b0 : decide (0 ≤ x3_1) = true := decide_eq_true c3
     clear c3
     by_cases c5 : (bt a0 x3_1) = 10
     ·rw [if_pos c5] at H
      have c5b0 : ((bt a0 x3_1) == 10) = true := beq_iff_eq.mpr c5
      have c5b1 : ((bt a0 x3_1) != 10) = false := bne_eq_false_iff_eq.mpr c5
      clear c5
      have H' := Aside0.mk H
      clear H
      have p4 : 0 ≤ (x3_1 : Int) := of_decide_eq_true (by first | (with_reducible assumption) | assumption)
      have q4 : x3_1 < (a0.size : Int) := of_decide_eq_true (by first | (with_reducible assumption) | assumption)
      have hx4 := bt_at a0 x3_1
      replace p4 := eq_true p4
      replace q4 := eq_true q4
      go_wp2
      go_loopg [4] k1 (fun kq v4 w' => ∃ (x4_2 : Int),v4 = .int .i64 x4_2 ∧ Aside0 (incipitref09_gap.l1 kq a0 x3_1 x4_2 = some r) ∧ Aside0 (kq ≤ k1) ∧ Drawn0 w w')
      case atStart => exact ⟨(wrap64 (x3_1 + 1)),(by first | rfl | (simp;done) | (simp [*];done)),H',⟨Nat.le_refl _⟩,by repeat (first | exact Drawn0.refl _ | apply Drawn0.step)⟩
      case round =>
       clear H'
       try clear c2
       try clear c2b0
       try clear p2
       try clear c3
       try clear c3b0
       try clear p4
       try clear q4
       try clear hx4
       try clear c5
       try clear c5b0
       try clear c5b1
       try clear p4
       try clear q4
       obtain ⟨x4_2,rfl,HA,HK2,⟨m2,rfl⟩⟩ := hrel
       cases gk with
       | zero => exact absurd HA.out (by simp [incipitref09_gap.l1])
       | succ k2 =>
        have H := HA.out
        clear HA
        simp only [incipitref09_gap.l1] at H
        by_cases c6 : x4_2 < (a0.size : Int)
        ·rw [if_pos c6] at H
         have c6b0 : decide (x4_2 < (a0.size : Int)) = true := decide_eq_true c6
         clear c6
         by_cases c7 : 0 ≤ x4_2
         ·rw [if_pos c7] at H
          have c7b0 : decide (0 ≤ x4_2) = true := decide_eq_true c7
          clear c7
          by_cases c9 : (bt a0 x4_2) = 32
          ·rw [if_pos c9] at H
           have c9b0 : ((bt a0 x4_2) == 32) = true := beq_iff_eq.mpr c9
           have c9b1 : ((bt a0 x4_2) != 32) = false := bne_eq_false_iff_eq.mpr c9
           clear c9
           have H' := Aside0.mk H
           clear H
           have p8 : 0 ≤ (x4_2 : Int) := of_decide_eq_true (by first | (with_reducible assumption) | assumption)
           have q8 : x4_2 < (a0.size : Int) := of_decide_eq_true (by first | (with_reducible assumption) | assumption)
           have hx8 := bt_at a0 x4_2
           replace p8 := eq_true p8
           replace q8 := eq_true q8
           go_wp2
           go_roundg k2
           case measure => have := HK1.out;have := HK2.out;omega
           case rel => exact ⟨(wrap64 (x4_2 + 1)),(by first | rfl | (simp;done) | (simp [*];done)),H',⟨by have := HK1.out;have := HK2.out;omega⟩,by repeat (first | exact Drawn0.refl _ | apply Drawn0.step)⟩
          ·rw [if_neg c9] at H
           have c9b0 : ((bt a0 x4_2) == 32) = false := beq_eq_false_iff_ne.mpr c9
           have c9b1 : ((bt a0 x4_2) != 32) = true := bne_iff_ne.mpr c9
           by_cases c11 : (bt a0 x4_2) = 9
           ·rw [if_pos c11] at H
            have c11b0 : ((bt a0 x4_2) == 9) = true := beq_iff_eq.mpr c11
            have c11b1 : ((bt a0 x4_2) != 9) = false := bne_eq_false_iff_eq.mpr c11
            clear c11
            have H' := Aside0.mk H
            clear H
            have p8 : 0 ≤ (x4_2 : Int) := of_decide_eq_true (by first | (with_reducible assumption) | assumption)
            have q8 : x4_2 < (a0.size : Int) := of_decide_eq_true (by first | (with_reducible assumption) | assumption)
            have hx8 := bt_at a0 x4_2
            replace p8 := eq_true p8
            replace q8 := eq_true q8
            have p10 : 0 ≤ (x4_2 : Int) := of_decide_eq_true (by first | (with_reducible assumption) | assumption)
            have q10 : x4_2 < (a0.size : Int) := of_decide_eq_true (by first | (with_reducible assumption) | assumption)
            have hx10 := bt_at a0 x4_2
            replace p10 := eq_true p10
            replace q10 := eq_true q10
            go_wp2
            go_roundg k2
            case measure => have := HK1.out;have := HK2.out;omega
            case rel => exact ⟨(wrap64 (x4_2 + 1)),(by first | rfl | (simp;done) | (simp [*];done)),H',⟨by have := HK1.out;have := HK2.out;omega⟩,by repeat (first | exact Drawn0.refl _ | apply Drawn0.step)⟩
           ·rw [if_neg c11] at H
            have c11b0 : ((bt a0 x4_2) == 9) = false := beq_eq_false_iff_ne.mpr c11
            have c11b1 : ((bt a0 x4_2) != 9) = true := bne_iff_ne.mpr c11
            by_cases c13 : (bt a0 x4_2) = 10
            ·rw [if_pos c13] at H
             have c13b0 : ((bt a0 x4_2) == 10) = true := beq_iff_eq.mpr c13
             have c13b1 : ((bt a0 x4_2) != 10) = false := bne_eq_false_iff_eq.mpr c13
             clear c13
             obtain rfl := Option.some.inj H
             have p8 : 0 ≤ (x4_2 : Int) := of_decide_eq_true (by first | (with_reducible assumption) | assumption)
             have q8 : x4_2 < (a0.size : Int) := of_decide_eq_true (by first | (with_reducible assumption) | assumption)
             have hx8 := bt_at a0 x4_2
             replace p8 := eq_true p8
             replace q8 := eq_true q8
             have p10 : 0 ≤ (x4_2 : Int) := of_decide_eq_true (by first | (with_reducible assumption) | assumption)
             have q10 : x4_2 < (a0.size : Int) := of_decide_eq_true (by first | (with_reducible assumption) | assumption)
             have hx10 := bt_at a0 x4_2
             replace p10 := eq_true p10
             replace q10 := eq_true q10
             have p12 : 0 ≤ (x4_2 : Int) := of_decide_eq_true (by first | (with_reducible assumption) | assumption)
             have q12 : x4_2 < (a0.size : Int) := of_decide_eq_true (by first | (with_reducible assumption) | assumption)
             have hx12 := bt_at a0 x4_2
             replace p12 := eq_true p12
             replace q12 := eq_true q12
             go_wp2
             go_ret
             exact ⟨by first | rfl | (simp;done) | (simp [*];done),by repeat (first | exact Drawn0.refl _ | apply Drawn0.step)⟩
            ·rw [if_neg c13] at H
             have c13b0 : ((bt a0 x4_2) == 10) = false := beq_eq_false_iff_ne.mpr c13
             have c13b1 : ((bt a0 x4_2) != 10) = true := bne_iff_ne.mpr c13
             have H' := Aside0.mk H
             clear H
             have p8 : 0 ≤ (x4_2 : Int) := of_decide_eq_true (by first | (with_reducible assumption) | assumption)
             have q8 : x4_2 < (a0.size : Int) := of_decide_eq_true (by first | (with_reducible assumption) | assumption)
             have hx8 := bt_at a0 x4_2
             replace p8 := eq_true p8
             replace q8 := eq_true q8
             have p10 : 0 ≤ (x4_2 : Int) := of_decide_eq_true (by first | (with_reducible assumption) | assumption)
             have q10 : x4_2 < (a0.size : Int) := of_decide_eq_true (by first | (with_reducible assumption) | assumption)
             have hx10 := bt_at a0 x4_2
             replace p10 := eq_true p10
             replace q10 := eq_true q10
             have p12 : 0 ≤ (x4_2 : Int) := of_decide_eq_true (by first | (with_reducible assumption) | assumption)
             have q12 : x4_2 < (a0.size : Int) := of_decide_eq_true (by first | (with_reducible assumption) | assumption)
             have hx12 := bt_at a0 x4_2
             replace p12 := eq_true p12
             replace q12 := eq_true q12
             go_wp2
             go_roundg k2
             case measure => have := HK1.out;have := HK2.out;omega
             case rel => exact ⟨(wrap64 (x3_1 + 1)),(by first | rfl | (simp;done) | (simp [*];done)),H',⟨by have := HK1.out;have := HK2.out;omega⟩,by repeat (first | exact Drawn0.refl _ | apply Drawn0.step)⟩
         ·rw [if_neg c7] at H
          exact absurd H (by simp)
        ·rw [if_neg c6] at H
         have c6b0 : decide (x4_2 < (a0.size : Int)) = false := decide_eq_false c6
         clear c6
         have H' := Aside0.mk H
         clear H
         go_wp2
         go_roundg k2
         case measure => have := HK1.out;have := HK2.out;omega
         case rel => exact ⟨(wrap64 (x3_1 + 1)),(by first | rfl | (simp;done) | (simp [*];done)),H',⟨by have := HK1.out;have := HK2.out;omega⟩,by repeat (first | exact Drawn0.refl _ | apply Drawn0.step)⟩
     ·rw [if_neg c5] at H
      have c5b0 : ((bt a0 x3_1) == 10) = false := beq_eq_false_iff_ne.mpr c5
      have c5b1 : ((bt a0 x3_1) != 10) = true := bne_iff_ne.mpr c5
      have H' := Aside0.mk H
      clear H
      have p4 : 0 ≤ (x3_1 : Int) := of_decide_eq_true (by first | (with_reducible assumption) | assumption)
      have q4 : x3_1 < (a0.size : Int) := of_decide_eq_true (by first | (with_reducible assumption) | assumption)
      have hx4 := bt_at a0 x3_1
      replace p4 := eq_true p4
      replace q4 := eq_true q4
      go_wp2
      go_roundg k1
      case measure => have := HK1.out;omega
      case rel => exact ⟨(wrap64 (x3_1 + 1)),(by first | rfl | (simp;done) | (simp [*];done)),H',⟨by have := HK1.out;omega⟩,by repeat (first | exact Drawn0.refl _ | apply Drawn0.step)⟩
    ·rw [if_neg c3] at H
     exact absurd H (by simp)
   ·rw [if_neg c2] at H
    have c2b0 : decide (x3_1 < (a0.size : Int)) = false := decide_eq_false c2
    clear c2
    obtain rfl := Option.some.inj H
    go_wp2
    go_ret
    exact ⟨by first | rfl | (simp;done) | (simp [*];done),by repeat (first | exact Drawn0.refl _ | apply Drawn0.step)⟩

end Go.Proofs.YtekifcbokdidlaaGreatDoor.PA

namespace Go.Proofs.YtekifcbokdidlaaGreatDoor.PA
open Go.RowKit Go.Proofs.YtekifcbokdidlaaGreatDoorW.PrintWords Go.Proofs.YtekifcbokdidlaaGreatDoorW.PrintLast Go.Proofs.YtekifcbokdidlaaGreatDoorW.PrintMore
attribute [local go_sem] max2_int min2_int max_two min_two max_three min_three max_four min_four   -- for this text's walks alone
set_option linter.unusedVariables false
set_option linter.unusedSimpArgs false

/-! ### incipitref09_Title: function 60 -/
mutual
def incipitref09_Title.j0 : Nat → ByteArray → Bool → Option (ByteArray × Int)
 | 0,_,_ => none
 | k + 1,x0,x23 => if x23 = true then (some ((⟨#[]⟩ : ByteArray),0)) else (if 0 < (x0.size : Int) then (if (bt x0 0) = 40 then (incipitref09_Title.j1 k x0 41) else (incipitref09_Title.j1 k x0 (bt x0 0))) else (none))
def incipitref09_Title.j1 : Nat → ByteArray → Int → Option (ByteArray × Int)
 | 0,_,_ => none
 | k + 1,x0,x4 => (incipitref09_marks.f k x0).bind fun t304 => (incipitref09_Title.l0 k x0 x4 t304 1)
def incipitref09_Title.l0 : Nat → ByteArray → Int → List Bool → Int → Option (ByteArray × Int)
 | 0,_,_,_,_ => none
 | k + 1,x0,x4,x5,x6 => if x6 < (x0.size : Int) then (if 0 ≤ x6 then (if x6 < (x5.length : Int) then (if rdOf false x5 x6 = true then (incipitref09_Title.l0 k x0 x4 x5 (wrap64 (x6 + 1))) else (if (bt x0 x6) = x4 then (if 1 ≤ x6 then (if x6 ≤ (x0.size : Int) then ((incipitref09_gap.f k (x0.extract 1 (x6 : Int).toNat)).bind fun t308 => (if t308 = true then (some ((⟨#[]⟩ : ByteArray),0)) else ((incipitref05_Unescape.f k (x0.extract 1 (x6 : Int).toNat)).bind fun t309 => (some (t309,wrap64 (x6 + 1)))))) else (none)) else (none)) else (if 0 < (x0.size : Int) then (if (bt x0 0) = 40 then (if (bt x0 x6) = 40 then (some ((⟨#[]⟩ : ByteArray),0)) else (incipitref09_Title.l0 k x0 x4 x5 (wrap64 (x6 + 1)))) else (incipitref09_Title.l0 k x0 x4 x5 (wrap64 (x6 + 1)))) else (none)))) else (none)) else (none)) else (some ((⟨#[]⟩ : ByteArray),0))
end
def incipitref09_Title.f (k : Nat) (a0 : ByteArray) : Option (ByteArray × Int) := if a0.toList = ([] : List UInt8) then (incipitref09_Title.j0 k a0 true) else (if 0 < (a0.size : Int) then (if (bt a0 0) = 34 then (incipitref09_Title.j0 k a0 false) else (if (bt a0 0) = 39 then (incipitref09_Title.j0 k a0 false) else (incipitref09_Title.j0 k a0 ((bt a0 0) != 40)))) else (none))
set_option maxHeartbeats 8000000 in
set_option maxRecDepth 100000 in
theorem incipitref09_Title.calls (k : Nat) (a0 : ByteArray) (r1 : ByteArray) (r2 : Int) (w : World) (h : incipitref09_Title.f k a0 = some (r1,r2)) :
  Calls Tryz.prog 60 #[.string a0] w fun e w' => e = .returned (.tuple #[.string r1,.int .i64 r2]) ∧ Below w.heap.size w w' := by
 have HB := Aside0.mk (Below.refl w.heap.size w)
 have H : (if a0.toList = ([] : List UInt8) then (incipitref09_Title.j0 k a0 true) else (if 0 < (a0.size : Int) then (if (bt a0 0) = 34 then (incipitref09_Title.j0 k a0 false) else (if (bt a0 0) = 39 then (incipitref09_Title.j0 k a0 false) else (incipitref09_Title.j0 k a0 ((bt a0 0) != 40)))) else (none))) = some (r1,r2) := h
 clear h
 have HC2 := Aside0.mk H
 clear H
 go_enter Tryz.func60,Tryz.ntmps60
 go_upto_region 1 with (fail)
 go_cut [23] (fun v23 wc => ∃ (kq : Nat) (x23_1 : Bool),v23 = .bool x23_1 ∧ Aside0 (incipitref09_Title.j0 kq a0 x23_1 = some (r1,r2)) ∧ Aside0 (kq ≤ k) ∧ Aside0 (Below w.heap.size w wc))
 case first =>
  have H := HC2.out
  clear HC2
  by_cases c3 : a0.toList = ([] : List UInt8)
  ·rw [if_pos c3] at H
   have c3b0 : (a0.toList == ([] : List UInt8)) = true := beq_iff_eq.mpr c3
   have c3b1 : (a0.toList != ([] : List UInt8)) = false := bne_eq_false_iff_eq.mpr c3
   clear c3
   (first | rw [c3b0] | (simp only [i64_w,i32_w];rw [c3b0]) | skip)
   have H' := Aside0.mk H
   clear H
   go_wp2
   go_meet
   case rel => exact ⟨_,(true),(by first | rfl | (simp;done) | (simp [*];done)),H',⟨by first | omega | exact Nat.le_refl _⟩,⟨by repeat (first | (with_reducible first | exact HB.out | apply below_alloc | apply pw_below_drewN | apply below_drew1) | exact HB.out)⟩⟩
  ·rw [if_neg c3] at H
   have c3b0 : (a0.toList == ([] : List UInt8)) = false := beq_eq_false_iff_ne.mpr c3
   have c3b1 : (a0.toList != ([] : List UInt8)) = true := bne_iff_ne.mpr c3
   (first | rw [c3b0] | (simp only [i64_w,i32_w];rw [c3b0]) | skip)
   by_cases c4 : 0 < (a0.size : Int)
   ·rw [if_pos c4] at H
    have c4b0 : decide (0 < (a0.size : Int)) = true := decide_eq_true c4
    have c4b1 : decide (0 < a0.size) = true := decide_eq_true (by omega)
    clear c4
    by_cases c6 : (bt a0 0) = 34
    ·rw [if_pos c6] at H
     have c6b0 : ((bt a0 0) == 34) = true := beq_iff_eq.mpr c6
     have c6b1 : ((bt a0 0) != 34) = false := bne_eq_false_iff_eq.mpr c6
     clear c6
     have H' := Aside0.mk H
     clear H
     have p5 : 0 ≤ (0 : Int) := (by omega)
     have q5 : 0 < a0.size := (by have : (0 : Int) < (a0.size : Int) := of_decide_eq_true (by first | (with_reducible assumption) | assumption);omega)
     have hx5 : ∀ h : 0 < a0.size,((a0[0]'h).toNat : Int) = bt a0 0 := bt_at a0 0
     clear p5
     have qi5 : (0 < (a0.size : Int)) = True := eq_true (of_decide_eq_true (by first | (with_reducible assumption) | assumption))
     replace q5 := eq_true q5
     go_wp2
     go_meet
     case rel => exact ⟨_,(false),(by first | rfl | (simp;done) | (simp [*];done)),H',⟨by first | omega | exact Nat.le_refl _⟩,⟨by repeat (first | (with_reducible first | exact HB.out | apply below_alloc | apply pw_below_drewN | apply below_drew1) | exact HB.out)⟩⟩
    ·rw [if_neg c6] at H
     have c6b0 : ((bt a0 0) == 34) = false := beq_eq_false_iff_ne.mpr c6
     have c6b1 : ((bt a0 0) != 34) = true := bne_iff_ne.mpr c6
     by_cases c8 : (bt a0 0) = 39
     ·rw [if_pos c8] at H
      have c8b0 : ((bt a0 0) == 39) = true := beq_iff_eq.mpr c8
      have c8b1 : ((bt a0 0) != 39) = false := bne_eq_false_iff_eq.mpr c8
      clear c8
      have H' := Aside0.mk H
      clear H
      have p5 : 0 ≤ (0 : Int) := (by omega)
      have q5 : 0 < a0.size := (by have : (0 : Int) < (a0.size : Int) := of_decide_eq_true (by first | (with_reducible assumption) | assumption);omega)
      have hx5 : ∀ h : 0 < a0.size,((a0[0]'h).toNat : Int) = bt a0 0 := bt_at a0 0
      clear p5
      have qi5 : (0 < (a0.size : Int)) = True := eq_true (of_decide_eq_true (by first | (with_reducible assumption) | assumption))
      replace q5 := eq_true q5
      have p7 : 0 ≤ (0 : Int) := (by omega)
      have q7 : 0 < a0.size := (by have : (0 : Int) < (a0.size : Int) := of_decide_eq_true (by first | (with_reducible assumption) | assumption);omega)
      have hx7 : ∀ h : 0 < a0.size,((a0[0]'h).toNat : Int) = bt a0 0 := bt_at a0 0
      clear p7
      have qi7 : (0 < (a0.size : Int)) = True := eq_true (of_decide_eq_true (by first | (with_reducible assumption) | assumption))
      replace q7 := eq_true q7
      go_wp2
      go_meet
      case rel => exact ⟨_,(false),(by first | rfl | (simp;done) | (simp [*];done)),H',⟨by first | omega | exact Nat.le_refl _⟩,⟨by repeat (first | (with_reducible first | exact HB.out | apply below_alloc | apply pw_below_drewN | apply below_drew1) | exact HB.out)⟩⟩
     ·rw [if_neg c8] at H
      have c8b0 : ((bt a0 0) == 39) = false := beq_eq_false_iff_ne.mpr c8
      have c8b1 : ((bt a0 0) != 39) = true := bne_iff_ne.mpr c8
      have H' := Aside0.mk H
      clear H
      have p5 : 0 ≤ (0 : Int) := (by omega)
      have q5 : 0 < a0.size := (by have : (0 : Int) < (a0.size : Int) := of_decide_eq_true (by first | (with_reducible assumption) | assumption);omega)
      have hx5 : ∀ h : 0 < a0.size,((a0[0]'h).toNat : Int) = bt a0 0 := bt_at a0 0
      clear p5
      have qi5 : (0 < (a0.size : Int)) = True := eq_true (of_decide_eq_true (by first | (with_reducible assumption) | assumption))
      replace q5 := eq_true q5
      have p7 : 0 ≤ (0 : Int) := (by omega)
      have q7 : 0 < a0.size := (by have : (0 : Int) < (a0.size : Int) := of_decide_eq_true (by first | (with_reducible assumption) | assumption);omega)
      have hx7 : ∀ h : 0 < a0.size,((a0[0]'h).toNat : Int) = bt a0 0 := bt_at a0 0
      clear p7
      have qi7 : (0 < (a0.size : Int)) = True := eq_true (of_decide_eq_true (by first | (with_reducible assumption) | assumption))
      replace q7 := eq_true q7
      have p9 : 0 ≤ (0 : Int) := (by omega)
      have q9 : 0 < a0.size := (by have : (0 : Int) < (a0.size : Int) := of_decide_eq_true (by first | (with_reducible assumption) | assumption);omega)
      have hx9 : ∀ h : 0 < a0.size,((a0[0]'h).toNat : Int) = bt a0 0 := bt_at a0 0
      clear p9
      have qi9 : (0 < (a0.size : Int)) = True := eq_true (of_decide_eq_true (by first | (with_reducible assumption) | assumption))
      replace q9 := eq_true q9
      go_wp2
      go_meet
      case rel => exact ⟨_,(((bt a0 0) != 40)),(by first | rfl | (simp;done) | (simp [*];done)),H',⟨by first | omega | exact Nat.le_refl _⟩,⟨by repeat (first | (with_reducible first | exact HB.out | apply below_alloc | apply pw_below_drewN | apply below_drew1) | exact HB.out)⟩⟩
   ·rw [if_neg c4] at H
    exact absurd H (by simp)
 case rest =>
  clear HC2
  try clear p2
  try clear c3
  try clear c3b0
  try clear c3b1
  try clear c4
  try clear c4b0
  try clear c4b1
  try clear p5
  try clear q5
  try clear hx5
  try clear qi5
  try clear c6
  try clear c6b0
  try clear c6b1
  try clear p7
  try clear q7
  try clear hx7
  try clear qi7
  try clear c8
  try clear c8b0
  try clear c8b1
  try clear p9
  try clear q9
  try clear hx9
  try clear qi9
  try clear p5
  try clear p7
  try clear p9
  try clear q5
  try clear q7
  try clear q9
  obtain ⟨kq,x23_1,rfl,HA,HJ1,HB⟩ := hcut
  cases kq with
  | zero => exact absurd HA.out (by simp [incipitref09_Title.j0])
  | succ kj1 =>
   have H := HA.out
   clear HA
   simp only [incipitref09_Title.j0] at H
   by_cases c10 : x23_1 = true
   ·subst c10
    have H1 : (some ((⟨#[]⟩ : ByteArray),0)) = some (r1,r2) := by rw [if_pos rfl] at H;exact H
    clear H
    have H := H1
    clear H1
    simp only [Option.some.injEq,Prod.mk.injEq] at H
    obtain ⟨rfl,rfl⟩ := H
    go_wp2
    go_ret2
    exact ⟨by first | rfl | exact retNe _ | (simp [errW_none,errW_some] <;> rfl) | (simp [*,errW_none,errW_some] <;> rfl),by repeat (first | (with_reducible first | exact HB.out | apply below_alloc | apply pw_below_drewN | apply below_drew1) | exact HB.out)⟩
   ·replace c10 := Bool.eq_false_iff.mpr c10
    subst c10
    have H1 : (if 0 < (a0.size : Int) then (if (bt a0 0) = 40 then (incipitref09_Title.j1 kj1 a0 41) else (incipitref09_Title.j1 kj1 a0 (bt a0 0))) else (none)) = some (r1,r2) := by rw [if_neg (show ¬ (false = true) by decide)] at H;exact H
    clear H
    have H := H1
    clear H1
    by_cases c11 : 0 < (a0.size : Int)
    ·rw [if_pos c11] at H
     have c11b0 : decide (0 < (a0.size : Int)) = true := decide_eq_true c11
     have c11b1 : decide (0 < a0.size) = true := decide_eq_true (by omega)
     clear c11
     have HC13 := Aside0.mk H
     clear H
     have p12 : 0 ≤ (0 : Int) := (by omega)
     have q12 : 0 < a0.size := (by have : (0 : Int) < (a0.size : Int) := of_decide_eq_true (by first | (with_reducible assumption) | assumption);omega)
     have hx12 : ∀ h : 0 < a0.size,((a0[0]'h).toNat : Int) = bt a0 0 := bt_at a0 0
     clear p12
     have qi12 : (0 < (a0.size : Int)) = True := eq_true (of_decide_eq_true (by first | (with_reducible assumption) | assumption))
     replace q12 := eq_true q12
     go_upto_if 27 with (fail)
     go_cut [4] (fun v4 wc => ∃ (kq : Nat) (x4_12 : Int),v4 = .int .u8 x4_12 ∧ Aside0 (incipitref09_Title.j1 kq a0 x4_12 = some (r1,r2)) ∧ Aside0 (kq ≤ kj1) ∧ Aside0 (Below w.heap.size w wc))
     case first =>
      have H := HC13.out
      clear HC13
      by_cases c14 : (bt a0 0) = 40
      ·rw [if_pos c14] at H
       have c14b0 : ((bt a0 0) == 40) = true := beq_iff_eq.mpr c14
       have c14b1 : ((bt a0 0) != 40) = false := bne_eq_false_iff_eq.mpr c14
       clear c14
       (first | rw [c14b0] | (simp only [i64_w,i32_w];rw [c14b0]) | skip)
       have H' := Aside0.mk H
       clear H
       go_wp2
       go_meet
       case rel => exact ⟨_,(41),(by first | rfl | (simp;done) | (simp [*];done)),H',⟨by have := HJ1.out;first | omega | exact Nat.le_refl _⟩,⟨by repeat (first | (with_reducible first | exact HB.out | apply below_alloc | apply pw_below_drewN | apply below_drew1) | exact HB.out)⟩⟩
      ·rw [if_neg c14] at H
       have c14b0 : ((bt a0 0) == 40) = false := beq_eq_false_iff_ne.mpr c14
       have c14b1 : ((bt a0 0) != 40) = true := bne_iff_ne.mpr c14
       (first | rw [c14b0] | (simp only [i64_w,i32_w];rw [c14b0]) | skip)
       have H' := Aside0.mk H
       clear H
       go_wp2
       go_meet
       case rel => exact ⟨_,(bt a0 0),(by first | rfl | (simp;done) | (simp [*];done)),H',⟨by have := HJ1.out;first | omega | exact Nat.le_refl _⟩,⟨by repeat (first | (with_reducible first | exact HB.out | apply below_alloc | apply pw_below_drewN | apply below_drew1) | exact HB.out)⟩⟩
     case rest =>
      clear HC13
      try clear c1
      try clear p1
      try clear q1
      try clear hx1
      try clear qi1
      try clear p2
      try clear c3
      try clear c3b0
      try clear c3b1
      try clear c4
      try clear c4b0
      try clear c4b1
      try clear p5
      try clear q5
      try clear hx5
      try clear qi5
      try clear c6
      try clear c6b0
      try clear c6b1
      try clear p7
      try clear q7
      try clear hx7
      try clear qi7
      try clear c8
      try clear c8b0
      try clear c8b1
      try clear p9
      try clear q9
      try clear hx9
      try clear qi9
      try clear c10
      try clear c11
      try clear c11b0
      try clear c11b1
      try clear p12
      try clear q12
      try clear hx12
      try clear qi12
      try clear c14
      try clear c14b0
      try clear c14b1
      try clear p12
      try clear p2
      try clear p5
      try clear p7
      try clear p9
      try clear q12
      try clear q5
      try clear q7
      try clear q9
      obtain ⟨kq,x4_12,rfl,HA,HJ12,HB⟩ := hcut
      cases kq with
      | zero => exact absurd HA.out (by simp [incipitref09_Title.j1])
      | succ kj12 =>
       have H := HA.out
       clear HA
       simp only [incipitref09_Title.j1] at H
       replace H := Option.bind_eq_some_iff.mp H
       obtain ⟨t304,A150,H⟩ := H
       replace H : (incipitref09_Title.l0 kj12 a0 x4_12 t304 1) = some (r1,r2) := H
       have A15 := Aside0.mk A150
       clear A150
       have H' := Aside0.mk H
       clear H
       go_wp2_with (first | ((with_reducible refine gate_callee (f := 55) rfl ?_);refine goesL_ (some 29) rfl rfl Tryz.func55 (by kernel_rfl) rfl #[.string a0] rfl (by (try simp only [List.map_toArray,List.map_cons,List.map_nil]);first | done | rfl | (simp only [List.length_drop,List.length_take];rfl)) ?_;(with_reducible refine (incipitref09_marks.calls kj12 a0 t304 _ A15.out).mono ?_);rintro e w16 ⟨v305,rfl,ho0,hb⟩;refine ⟨_,rfl,?_⟩;have n0_ := Aside0.mk (Kd.R_lower ho0 (below_size (by repeat (first | (with_reducible first | exact HB.out | apply below_alloc | apply pw_below_drewN | apply below_drew1) | exact HB.out))));have n1_ := Aside0.mk (below_step (by repeat (first | (with_reducible first | exact HB.out | apply below_alloc | apply pw_below_drewN | apply below_drew1) | exact HB.out)) hb);clear HB;have HO306 := n0_;have HB := n1_;clear n0_ n1_;(try clear hb);(try clear hb2);(try clear hk);(try clear hi);(try clear ho0)))
       go_loopg [6] kj12 (fun kq v6 w' => ∃ (x6_3 : Int),v6 = .int .i64 x6_3 ∧ Aside0 (incipitref09_Title.l0 kq a0 x4_12 t304 x6_3 = some (r1,r2)) ∧ Aside0 (kq ≤ kj12) ∧ Aside0 (Kd.R Kd.bool 4 w' w.heap.size (fun _ => True) v305 t304) ∧ Aside0 (Below w.heap.size w w'))
       case atStart => exact ⟨(1),(by first | rfl | (simp;done) | (simp [*];done)),H',⟨Nat.le_refl _⟩,⟨by (with_reducible repeat (first | apply Kd.R_alloc | apply Kd.R_drewN | apply Kd.R_drew));exact HO306.out⟩,⟨by repeat (first | (with_reducible first | exact HB.out | apply below_alloc | apply pw_below_drewN | apply below_drew1) | exact HB.out)⟩⟩
       case round =>
        clear H'
        try clear c1
        try clear p1
        try clear q1
        try clear hx1
        try clear qi1
        try clear p2
        try clear c3
        try clear c3b0
        try clear c3b1
        try clear c4
        try clear c4b0
        try clear c4b1
        try clear c5
        try clear p5
        try clear q5
        try clear hx5
        try clear qi5
        try clear c6
        try clear c6b0
        try clear c6b1
        try clear p7
        try clear q7
        try clear hx7
        try clear qi7
        try clear c8
        try clear c8b0
        try clear c8b1
        try clear p9
        try clear q9
        try clear hx9
        try clear qi9
        try clear c10
        try clear c11
        try clear c11b0
        try clear c11b1
        try clear p12
        try clear q12
        try clear hx12
        try clear qi12
        try clear c14
        try clear c14b0
        try clear c14b1
        try clear p1
        try clear p12
        try clear p2
        try clear p5
        try clear p7
        try clear p9
        try clear q1
        try clear q12
        try clear q5
        try clear q7
        try clear q9
        obtain ⟨x6_3,rfl,HA,HK3,HO_5,HB⟩ := hrel
        cases gk with
        | zero => exact absurd HA.out (by simp [incipitref09_Title.l0])
        | succ k3 =>
         have H := HA.out
         clear HA
         simp only [incipitref09_Title.l0] at H
         by_cases c17 : x6_3 < (a0.size : Int)
         ·rw [if_pos c17] at H
          have c17b0 : decide (x6_3 < (a0.size : Int)) = true := decide_eq_true c17
          clear c17
          by_cases c18 : 0 ≤ x6_3
          ·rw [if_pos c18] at H
           have c18b0 : decide (0 ≤ x6_3) = true := decide_eq_true c18
           clear c18
           by_cases c19 : x6_3 < (t304.length : Int)
           ·rw [if_pos c19] at H
            have c19b0 : decide (x6_3 < (t304.length : Int)) = true := decide_eq_true c19
            clear c19
            obtain ⟨bq20,hbq20⟩ : ∃ b_ : Bool,b_ = (rdOf false t304 x6_3) := ⟨_,rfl⟩
            replace H : (if bq20 = true then (incipitref09_Title.l0 k3 a0 x4_12 t304 (wrap64 (x6_3 + 1))) else (if (bt a0 x6_3) = x4_12 then (if 1 ≤ x6_3 then (if x6_3 ≤ (a0.size : Int) then ((incipitref09_gap.f k3 (a0.extract 1 (x6_3 : Int).toNat)).bind fun t308 => (if t308 = true then (some ((⟨#[]⟩ : ByteArray),0)) else ((incipitref05_Unescape.f k3 (a0.extract 1 (x6_3 : Int).toNat)).bind fun t309 => (some (t309,wrap64 (x6_3 + 1)))))) else (none)) else (none)) else (if 0 < (a0.size : Int) then (if (bt a0 0) = 40 then (if (bt a0 x6_3) = 40 then (some ((⟨#[]⟩ : ByteArray),0)) else (incipitref09_Title.l0 k3 a0 x4_12 t304 (wrap64 (x6_3 + 1)))) else (incipitref09_Title.l0 k3 a0 x4_12 t304 (wrap64 (x6_3 + 1)))) else (none)))) = some (r1,r2) := by rw [← hbq20] at H;exact H
            have Nbq20 := Aside0.mk hbq20
            clear hbq20
            by_cases c21 : bq20 = true
            ·subst c21
             have H1 : (incipitref09_Title.l0 k3 a0 x4_12 t304 (wrap64 (x6_3 + 1))) = some (r1,r2) := by rw [if_pos rfl] at H;exact H
             clear H
             have H := H1
             clear H1
             have H' := Aside0.mk H
             clear H
             obtain ⟨Ao22,co22,eo22⟩ := Kd.R_slice HO_5.out
             subst eo22
             have p307 : 0 ≤ (x6_3 : Int) := of_decide_eq_true (by first | (with_reducible assumption) | assumption)
             have q307 : x6_3 < (t304.length : Int) := of_decide_eq_true (by first | (with_reducible assumption) | assumption)
             obtain ⟨ad307,e307,hx307_0⟩ := Kd.at_bool (Kd.R_reads' HO_5.out).2.2 x6_3 p307 q307
             (try rw [← Nbq20.out] at hx307_0)
             cases e307
             replace p307 := eq_true p307
             replace q307 := eq_true q307
             go_wp2
             go_roundg k3
             case measure => have := HJ1.out;have := HJ12.out;have := HK3.out;omega
             case rel => exact ⟨(wrap64 (x6_3 + 1)),(by first | rfl | (simp;done) | (simp [*];done)),H',⟨by have := HJ1.out;have := HJ12.out;have := HK3.out;omega⟩,⟨by (with_reducible repeat (first | apply Kd.R_alloc | apply Kd.R_drewN | apply Kd.R_drew));exact HO_5.out⟩,⟨by repeat (first | (with_reducible first | exact HB.out | apply below_alloc | apply pw_below_drewN | apply below_drew1) | exact HB.out)⟩⟩
            ·replace c21 := Bool.eq_false_iff.mpr c21
             subst c21
             have H1 : (if (bt a0 x6_3) = x4_12 then (if 1 ≤ x6_3 then (if x6_3 ≤ (a0.size : Int) then ((incipitref09_gap.f k3 (a0.extract 1 (x6_3 : Int).toNat)).bind fun t308 => (if t308 = true then (some ((⟨#[]⟩ : ByteArray),0)) else ((incipitref05_Unescape.f k3 (a0.extract 1 (x6_3 : Int).toNat)).bind fun t309 => (some (t309,wrap64 (x6_3 + 1)))))) else (none)) else (none)) else (if 0 < (a0.size : Int) then (if (bt a0 0) = 40 then (if (bt a0 x6_3) = 40 then (some ((⟨#[]⟩ : ByteArray),0)) else (incipitref09_Title.l0 k3 a0 x4_12 t304 (wrap64 (x6_3 + 1)))) else (incipitref09_Title.l0 k3 a0 x4_12 t304 (wrap64 (x6_3 + 1)))) else (none))) = some (r1,r2) := by rw [if_neg (show ¬ (false = true) by decide)] at H;exact H
             clear H
             have H := H1
             clear H1
             by_cases c24 : (bt a0 x6_3) = x4_12
             ·rw [if_pos c24] at H
              have c24b0 : ((bt a0 x6_3) == x4_12) = true := beq_iff_eq.mpr c24
              have c24b1 : ((bt a0 x6_3) != x4_12) = false := bne_eq_false_iff_eq.mpr c24
              clear c24
              by_cases c25 : 1 ≤ x6_3
              ·rw [if_pos c25] at H
               have c25b0 := eq_true c25
               have c25b1 : decide (1 ≤ x6_3) = true := decide_eq_true c25
               clear c25
               by_cases c26 : x6_3 ≤ (a0.size : Int)
               ·rw [if_pos c26] at H
                have c26b0 := eq_true c26
                have c26b1 : decide (x6_3 ≤ (a0.size : Int)) = true := decide_eq_true c26
                clear c26
                replace H := Option.bind_eq_some_iff.mp H
                obtain ⟨t308,A270,H⟩ := H
                replace H : (if t308 = true then (some ((⟨#[]⟩ : ByteArray),0)) else ((incipitref05_Unescape.f k3 (a0.extract 1 (x6_3 : Int).toNat)).bind fun t309 => (some (t309,wrap64 (x6_3 + 1))))) = some (r1,r2) := H
                have A27 := Aside0.mk A270
                clear A270
                by_cases c28 : t308 = true
                ·subst c28
                 have H1 : (some ((⟨#[]⟩ : ByteArray),0)) = some (r1,r2) := by rw [if_pos rfl] at H;exact H
                 clear H
                 have H := H1
                 clear H1
                 simp only [Option.some.injEq,Prod.mk.injEq] at H
                 obtain ⟨rfl,rfl⟩ := H
                 obtain ⟨Ao29,co29,eo29⟩ := Kd.R_slice HO_5.out
                 subst eo29
                 have p307 : 0 ≤ (x6_3 : Int) := of_decide_eq_true (by first | (with_reducible assumption) | assumption)
                 have q307 : x6_3 < (t304.length : Int) := of_decide_eq_true (by first | (with_reducible assumption) | assumption)
                 obtain ⟨ad307,e307,hx307_0⟩ := Kd.at_bool (Kd.R_reads' HO_5.out).2.2 x6_3 p307 q307
                 (try rw [← Nbq20.out] at hx307_0)
                 cases e307
                 replace p307 := eq_true p307
                 replace q307 := eq_true q307
                 have p23 : 0 ≤ (x6_3 : Int) := of_decide_eq_true (by first | (with_reducible assumption) | assumption)
                 have q23 : x6_3 < (a0.size : Int) := of_decide_eq_true (by first | (with_reducible assumption) | assumption)
                 have hx23 := bt_at a0 x6_3
                 replace p23 := eq_true p23
                 replace q23 := eq_true q23
                 go_wp2_with (first | ((with_reducible refine gate_callee (f := 88) rfl ?_);refine goesL_ (some 48) rfl rfl Tryz.func88 (by kernel_rfl) rfl #[.string (a0.extract 1 (x6_3 : Int).toNat)] rfl (by (try simp only [List.map_toArray,List.map_cons,List.map_nil]);first | done | rfl | (simp only [List.length_drop,List.length_take];rfl)) ?_;(with_reducible refine (incipitref09_gap.calls k3 (a0.extract 1 (x6_3 : Int).toNat) true _ A27.out).mono ?_);rintro e w' ⟨rfl,⟨nd,rfl⟩⟩;refine ⟨_,rfl,?_⟩))
                 go_ret2
                 exact ⟨by first | rfl | exact retNe _ | (simp [errW_none,errW_some] <;> rfl) | (simp [*,errW_none,errW_some] <;> rfl),by repeat (first | (with_reducible first | exact HB.out | apply below_alloc | apply pw_below_drewN | apply below_drew1) | exact HB.out)⟩
                ·replace c28 := Bool.eq_false_iff.mpr c28
                 subst c28
                 have H1 : ((incipitref05_Unescape.f k3 (a0.extract 1 (x6_3 : Int).toNat)).bind fun t309 => (some (t309,wrap64 (x6_3 + 1)))) = some (r1,r2) := by rw [if_neg (show ¬ (false = true) by decide)] at H;exact H
                 clear H
                 have H := H1
                 clear H1
                 have c30b0 := eq_true (of_decide_eq_true (by first | (with_reducible assumption) | assumption) : 1 ≤ x6_3)
                 have c31b0 := eq_true (of_decide_eq_true (by first | (with_reducible assumption) | assumption) : x6_3 ≤ (a0.size : Int))
                 replace H := Option.bind_eq_some_iff.mp H
                 obtain ⟨t309,A320,H⟩ := H
                 replace H : (some (t309,wrap64 (x6_3 + 1))) = some (r1,r2) := H
                 have A32 := Aside0.mk A320
                 clear A320
                 simp only [Option.some.injEq,Prod.mk.injEq] at H
                 obtain ⟨rfl,rfl⟩ := H
                 obtain ⟨Ao33,co33,eo33⟩ := Kd.R_slice HO_5.out
                 subst eo33
                 have p307 : 0 ≤ (x6_3 : Int) := of_decide_eq_true (by first | (with_reducible assumption) | assumption)
                 have q307 : x6_3 < (t304.length : Int) := of_decide_eq_true (by first | (with_reducible assumption) | assumption)
                 obtain ⟨ad307,e307,hx307_0⟩ := Kd.at_bool (Kd.R_reads' HO_5.out).2.2 x6_3 p307 q307
                 (try rw [← Nbq20.out] at hx307_0)
                 cases e307
                 replace p307 := eq_true p307
                 replace q307 := eq_true q307
                 have p23 : 0 ≤ (x6_3 : Int) := of_decide_eq_true (by first | (with_reducible assumption) | assumption)
                 have q23 : x6_3 < (a0.size : Int) := of_decide_eq_true (by first | (with_reducible assumption) | assumption)
                 have hx23 := bt_at a0 x6_3
                 replace p23 := eq_true p23
                 replace q23 := eq_true q23
                 go_wp2_with (first | ((with_reducible refine gate_callee (f := 88) rfl ?_);refine goesL_ (some 48) rfl rfl Tryz.func88 (by kernel_rfl) rfl #[.string (a0.extract 1 (x6_3 : Int).toNat)] rfl (by (try simp only [List.map_toArray,List.map_cons,List.map_nil]);first | done | rfl | (simp only [List.length_drop,List.length_take];rfl)) ?_;(with_reducible refine (incipitref09_gap.calls k3 (a0.extract 1 (x6_3 : Int).toNat) false _ A27.out).mono ?_);rintro e w' ⟨rfl,⟨nd,rfl⟩⟩;refine ⟨_,rfl,?_⟩) | ((with_reducible refine gate_callee (f := 59) rfl ?_);refine goesL_ (some 52) rfl rfl Tryz.func59 (by kernel_rfl) rfl #[.string (a0.extract 1 (x6_3 : Int).toNat)] rfl (by (try simp only [List.map_toArray,List.map_cons,List.map_nil]);first | done | rfl | (simp only [List.length_drop,List.length_take];rfl)) ?_;(with_reducible refine (incipitref05_Unescape.calls k3 (a0.extract 1 (x6_3 : Int).toNat) t309 _ A32.out).mono ?_);rintro e w34 ⟨rfl,hb⟩;refine ⟨_,rfl,?_⟩;have n0_ := Aside0.mk (Kd.R_below (by (with_reducible repeat (first | apply Kd.R_alloc | apply Kd.R_drewN | apply Kd.R_drew));exact HO_5.out) hb);have n1_ := Aside0.mk (below_step (by repeat (first | (with_reducible first | exact HB.out | apply below_alloc | apply pw_below_drewN | apply below_drew1) | exact HB.out)) hb);clear HO_5;clear HB;have HO_5 := n0_;have HB := n1_;clear n0_ n1_;(try clear hb);(try clear hb2);(try clear hk);(try clear hi)))
                 go_ret2
                 exact ⟨by first | rfl | exact retNe _ | (simp [errW_none,errW_some] <;> rfl) | (simp [*,errW_none,errW_some] <;> rfl),by repeat (first | (with_reducible first | exact HB.out | apply below_alloc | apply pw_below_drewN | apply below_drew1) | exact HB.out)⟩
               ·rw [if_neg c26] at H
                exact absurd H (by simp)
              ·rw [if_neg c25] at H
               exact absurd H (by simp)
             ·rw [if_neg c24] at H
              have c24b0 : ((bt a0 x6_3) == x4_12) = false := beq_eq_false_iff_ne.mpr c24
              have c24b1 : ((bt a0 x6_3) != x4_12) = true := bne_iff_ne.mpr c24
              by_cases c35 : 0 < (a0.size : Int)
              ·rw [if_pos c35] at H
               have c35b0 : decide (0 < (a0.size : Int)) = true := decide_eq_true c35
               have c35b1 : decide (0 < a0.size) = true := decide_eq_true (by omega)
               clear c35
               by_cases c37 : (bt a0 0) = 40
               ·rw [if_pos c37] at H
                have c37b0 : ((bt a0 0) == 40) = true := beq_iff_eq.mpr c37
                have c37b1 : ((bt a0 0) != 40) = false := bne_eq_false_iff_eq.mpr c37
                clear c37
                by_cases c39 : (bt a0 x6_3) = 40
                ·rw [if_pos c39] at H
                 have c39b0 : ((bt a0 x6_3) == 40) = true := beq_iff_eq.mpr c39
                 have c39b1 : ((bt a0 x6_3) != 40) = false := bne_eq_false_iff_eq.mpr c39
                 clear c39
                 simp only [Option.some.injEq,Prod.mk.injEq] at H
                 obtain ⟨rfl,rfl⟩ := H
                 obtain ⟨Ao40,co40,eo40⟩ := Kd.R_slice HO_5.out
                 subst eo40
                 have p307 : 0 ≤ (x6_3 : Int) := of_decide_eq_true (by first | (with_reducible assumption) | assumption)
                 have q307 : x6_3 < (t304.length : Int) := of_decide_eq_true (by first | (with_reducible assumption) | assumption)
                 obtain ⟨ad307,e307,hx307_0⟩ := Kd.at_bool (Kd.R_reads' HO_5.out).2.2 x6_3 p307 q307
                 (try rw [← Nbq20.out] at hx307_0)
                 cases e307
                 replace p307 := eq_true p307
                 replace q307 := eq_true q307
                 have p23 : 0 ≤ (x6_3 : Int) := of_decide_eq_true (by first | (with_reducible assumption) | assumption)
                 have q23 : x6_3 < (a0.size : Int) := of_decide_eq_true (by first | (with_reducible assumption) | assumption)
                 have hx23 := bt_at a0 x6_3
                 replace p23 := eq_true p23
                 replace q23 := eq_true q23
                 have p36 : 0 ≤ (0 : Int) := (by omega)
                 have q36 : 0 < a0.size := (by have : (0 : Int) < (a0.size : Int) := of_decide_eq_true (by first | (with_reducible assumption) | assumption);omega)
                 have hx36 : ∀ h : 0 < a0.size,((a0[0]'h).toNat : Int) = bt a0 0 := bt_at a0 0
                 clear p36
                 have qi36 : (0 < (a0.size : Int)) = True := eq_true (of_decide_eq_true (by first | (with_reducible assumption) | assumption))
                 replace q36 := eq_true q36
                 have p38 : 0 ≤ (x6_3 : Int) := of_decide_eq_true (by first | (with_reducible assumption) | assumption)
                 have q38 : x6_3 < (a0.size : Int) := of_decide_eq_true (by first | (with_reducible assumption) | assumption)
                 have hx38 := bt_at a0 x6_3
                 replace p38 := eq_true p38
                 replace q38 := eq_true q38
                 go_wp2
                 go_ret2
                 exact ⟨by first | rfl | exact retNe _ | (simp [errW_none,errW_some] <;> rfl) | (simp [*,errW_none,errW_some] <;> rfl),by repeat (first | (with_reducible first | exact HB.out | apply below_alloc | apply pw_below_drewN | apply below_drew1) | exact HB.out)⟩
                ·rw [if_neg c39] at H
                 have c39b0 : ((bt a0 x6_3) == 40) = false := beq_eq_false_iff_ne.mpr c39
                 have c39b1 : ((bt a0 x6_3) != 40) = true := bne_iff_ne.mpr c39
                 have H' := Aside0.mk H
                 clear H
                 obtain ⟨Ao41,co41,eo41⟩ := Kd.R_slice HO_5.out
                 subst eo41
                 have p307 : 0 ≤ (x6_3 : Int) := of_decide_eq_true (by first | (with_reducible assumption) | assumption)
                 have q307 : x6_3 < (t304.length : Int) := of_decide_eq_true (by first | (with_reducible assumption) | assumption)
                 obtain ⟨ad307,e307,hx307_0⟩ := Kd.at_bool (Kd.R_reads' HO_5.out).2.2 x6_3 p307 q307
                 (try rw [← Nbq20.out] at hx307_0)
                 cases e307
                 replace p307 := eq_true p307
                 replace q307 := eq_true q307
                 have p23 : 0 ≤ (x6_3 : Int) := of_decide_eq_true (by first | (with_reducible assumption) | assumption)
                 have q23 : x6_3 < (a0.size : Int) := of_decide_eq_true (by first | (with_reducible assumption) | assumption)
                 have hx23 := bt_at a0 x6_3
                 replace p23 := eq_true p23
                 replace q23 := eq_true q23
                 have p36 : 0 ≤ (0 : Int) := (by omega)
                 have q36 : 0 < a0.size := (by have : (0 : Int) < (a0.size : Int) := of_decide_eq_true (by first | (with_reducible assumption) | assumption);omega)
                 have hx36 : ∀ h : 0 < a0.size,((a0[0]'h).toNat : Int) = bt a0 0 := bt_at a0 0
                 clear p36
                 have qi36 : (0 < (a0.size : Int)) = True := eq_true (of_decide_eq_true (by first | (with_reducible assumption) | assumption))
                 replace q36 := eq_true q36
                 have p38 : 0 ≤ (x6_3 : Int) := of_decide_eq_true (by first | (with_reducible assumption) | assumption)
                 have q38 : x6_3 < (a0.size : Int) := of_decide_eq_true (by first | (with_reducible assumption) | assumption)
                 have hx38 := bt_at a0 x6_3
                 replace p38 := eq_true p38
                 replace q38 := eq_true q38
                 go_wp2
                 go_roundg k3
                 case measure => have := HJ1.out;have := HJ12.out;have := HK3.out;omega
                 case rel => exact ⟨(wrap64 (x6_3 + 1)),(by first | rfl | (simp;done) | (simp [*];done)),H',⟨by have := HJ1.out;have := HJ12.out;have := HK3.out;omega⟩,⟨by (with_reducible repeat (first | apply Kd.R_alloc | apply Kd.R_drewN | apply Kd.R_drew));exact HO_5.out⟩,⟨by repeat (first | (with_reducible first | exact HB.out | apply below_alloc | apply pw_below_drewN | apply below_drew1) | exact HB.out)⟩⟩
               ·rw [if_neg c37] at H
                have c37b0 : ((bt a0 0) == 40) = false := beq_eq_false_iff_ne.mpr c37
                have c37b1 : ((bt a0 0) != 40) = true := bne_iff_ne.mpr c37
                have H' := Aside0.mk H
                clear H
                obtain ⟨Ao42,co42,eo42⟩ := Kd.R_slice HO_5.out
                subst eo42
                have p307 : 0 ≤ (x6_3 : Int) := of_decide_eq_true (by first | (with_reducible assumption) | assumption)
                have q307 : x6_3 < (t304.length : Int) := of_decide_eq_true (by first | (with_reducible assumption) | assumption)
                obtain ⟨ad307,e307,hx307_0⟩ := Kd.at_bool (Kd.R_reads' HO_5.out).2.2 x6_3 p307 q307
                (try rw [← Nbq20.out] at hx307_0)
                cases e307
                replace p307 := eq_true p307
                replace q307 := eq_true q307
                have p23 : 0 ≤ (x6_3 : Int) := of_decide_eq_true (by first | (with_reducible assumption) | assumption)
                have q23 : x6_3 < (a0.size : Int) := of_decide_eq_true (by first | (with_reducible assumption) | assumption)
                have hx23 := bt_at a0 x6_3
                replace p23 := eq_true p23
                replace q23 := eq_true q23
                have p36 : 0 ≤ (0 : Int) := (by omega)
                have q36 : 0 < a0.size := (by have : (0 : Int) < (a0.size : Int) := of_decide_eq_true (by first | (with_reducible assumption) | assumption);omega)
                have hx36 : ∀ h : 0 < a0.size,((a0[0]'h).toNat : Int) = bt a0 0 := bt_at a0 0
                clear p36
                have qi36 : (0 < (a0.size : Int)) = True := eq_true (of_decide_eq_true (by first | (with_reducible assumption) | assumption))
                replace q36 := eq_true q36
                go_wp2
                go_roundg k3
                case measure => have := HJ1.out;have := HJ12.out;have := HK3.out;omega
                case rel => exact ⟨(wrap64 (x6_3 + 1)),(by first | rfl | (simp;done) | (simp [*];done)),H',⟨by have := HJ1.out;have := HJ12.out;have := HK3.out;omega⟩,⟨by (with_reducible repeat (first | apply Kd.R_alloc | apply Kd.R_drewN | apply Kd.R_drew));exact HO_5.out⟩,⟨by repeat (first | (with_reducible first | exact HB.out | apply below_alloc | apply pw_below_drewN | apply below_drew1) | exact HB.out)⟩⟩
              ·rw [if_neg c35] at H
               exact absurd H (by simp)
           ·rw [if_neg c19] at H
            exact absurd H (by simp)
          ·rw [if_neg c18] at H
           exact absurd H (by simp)
         ·rw [if_neg c17] at H
          have c17b0 : decide (x6_3 < (a0.size : Int)) = false := decide_eq_false c17
          clear c17
          simp only [Option.some.injEq,Prod.mk.injEq] at H
          obtain ⟨rfl,rfl⟩ := H
          go_wp2
          go_ret2
          exact ⟨by first | rfl | exact retNe _ | (simp [errW_none,errW_some] <;> rfl) | (simp [*,errW_none,errW_some] <;> rfl),by repeat (first | (with_reducible first | exact HB.out | apply below_alloc | apply pw_below_drewN | apply below_drew1) | exact HB.out)⟩
    ·rw [if_neg c11] at H
     exact absurd H (by simp)

/-! ### incipitref10_titled: function 35 -/
def incipitref10_titled.f (k : Nat) (a0 : ByteArray) : Option (ByteArray × Int) := (incipitref10_gap.f k a0).bind fun t310 => (if t310 < 1 then (some ((⟨#[]⟩ : ByteArray),(-1))) else (if 0 ≤ t310 then (if t310 ≤ (a0.size : Int) then ((incipitref09_Title.f k (a0.extract (t310 : Int).toNat a0.size)).bind fun bt311 => (if bt311.2 = 0 then (some ((⟨#[]⟩ : ByteArray),(-1))) else (if 0 ≤ (wrap64 (t310 + bt311.2)) then (if (wrap64 (t310 + bt311.2)) ≤ (a0.size : Int) then ((incipitref10_end.f k (a0.extract ((wrap64 (t310 + bt311.2)) : Int).toNat a0.size)).bind fun t313 => (if t313 < 0 then (some ((⟨#[]⟩ : ByteArray),(-1))) else (some (bt311.1,wrap64 ((wrap64 (t310 + bt311.2)) + t313))))) else (none)) else (none)))) else (none)) else (none)))
set_option maxHeartbeats 8000000 in
set_option maxRecDepth 100000 in
theorem incipitref10_titled.calls (k : Nat) (a0 : ByteArray) (r1 : ByteArray) (r2 : Int) (w : World) (h : incipitref10_titled.f k a0 = some (r1,r2)) :
    Calls Tryz.prog 35 #[.string a0] w fun e w' => e = .returned (.tuple #[.string r1,.int .i64 r2]) ∧ Below w.heap.size w w' := by
  have HB := Aside0.mk (Below.refl w.heap.size w)
  have H : ((incipitref10_gap.f k a0).bind fun t310 => (if t310 < 1 then (some ((⟨#[]⟩ : ByteArray),(-1))) else (if 0 ≤ t310 then (if t310 ≤ (a0.size : Int) then ((incipitref09_Title.f k (a0.extract (t310 : Int).toNat a0.size)).bind fun bt311 => (if bt311.2 = 0 then (some ((⟨#[]⟩ : ByteArray),(-1))) else (if 0 ≤ (wrap64 (t310 + bt311.2)) then (if (wrap64 (t310 + bt311.2)) ≤ (a0.size : Int) then ((incipitref10_end.f k (a0.extract ((wrap64 (t310 + bt311.2)) : Int).toNat a0.size)).bind fun t313 => (if t313 < 0 then (some ((⟨#[]⟩ : ByteArray),(-1))) else (some (bt311.1,wrap64 ((wrap64 (t310 + bt311.2)) + t313))))) else (none)) else (none)))) else (none)) else (none)))) = some (r1,r2) := h
  clear h
  replace H := Option.bind_eq_some_iff.mp H
  obtain ⟨t310,A20,H⟩ := H
  replace H : (if t310 < 1 then (some ((⟨#[]⟩ : ByteArray),(-1))) else (if 0 ≤ t310 then (if t310 ≤ (a0.size : Int) then ((incipitref09_Title.f k (a0.extract (t310 : Int).toNat a0.size)).bind fun bt311 => (if bt311.2 = 0 then (some ((⟨#[]⟩ : ByteArray),(-1))) else (if 0 ≤ (wrap64 (t310 + bt311.2)) then (if (wrap64 (t310 + bt311.2)) ≤ (a0.size : Int) then ((incipitref10_end.f k (a0.extract ((wrap64 (t310 + bt311.2)) : Int).toNat a0.size)).bind fun t313 => (if t313 < 0 then (some ((⟨#[]⟩ : ByteArray),(-1))) else (some (bt311.1,wrap64 ((wrap64 (t310 + bt311.2)) + t313))))) else (none)) else (none)))) else (none)) else (none))) = some (r1,r2) := H
  have A2 := Aside0.mk A20
  clear A20
  by_cases c3 : t310 < 1
  · rw [if_pos c3] at H
    have c3b0 : decide (t310 < 1) = true := decide_eq_true c3
    clear c3
    simp only [Option.some.injEq,Prod.mk.injEq] at H
    obtain ⟨rfl,rfl⟩ := H
    go_enter Tryz.func35,Tryz.ntmps35
    go_wp2_with (first | ((with_reducible refine gate_callee (f := 33) rfl ?_);refine goesL_ (some 9) rfl rfl Tryz.func33 (by kernel_rfl) rfl #[.string a0] rfl (by (try simp only [List.map_toArray,List.map_cons,List.map_nil]);first | done | rfl | (simp only [List.length_drop,List.length_take];rfl)) ?_;(with_reducible refine (incipitref10_gap.calls k a0 t310 _ A2.out).mono ?_);rintro e w' ⟨rfl,⟨nd,rfl⟩⟩;refine ⟨_,rfl,?_⟩))
    go_ret2
    exact ⟨by first | rfl | exact retNe _ | (simp [errW_none,errW_some] <;> rfl) | (simp [*,errW_none,errW_some] <;> rfl),by repeat (first | (with_reducible first | exact HB.out | apply below_alloc | apply pw_below_drewN | apply below_drew1) | exact HB.out)⟩
  · rw [if_neg c3] at H
    have c3b0 : decide (t310 < 1) = false := decide_eq_false c3
    clear c3
    by_cases c4 : 0 ≤ t310
    · rw [if_pos c4] at H
      have c4b0 := eq_true c4
      have c4b1 : decide (0 ≤ t310) = true := decide_eq_true c4
      clear c4
      by_cases c5 : t310 ≤ (a0.size : Int)
      · rw [if_pos c5] at H
        have c5b0 := eq_true c5
        have c5b1 : decide (t310 ≤ (a0.size : Int)) = true := decide_eq_true c5
        clear c5
        replace H := Option.bind_eq_some_iff.mp H
        obtain ⟨⟨t311,t312⟩,A60,H⟩ := H
        replace H : (if t312 = 0 then (some ((⟨#[]⟩ : ByteArray),(-1))) else (if 0 ≤ (wrap64 (t310 + t312)) then (if (wrap64 (t310 + t312)) ≤ (a0.size : Int) then ((incipitref10_end.f k (a0.extract ((wrap64 (t310 + t312)) : Int).toNat a0.size)).bind fun t313 => (if t313 < 0 then (some ((⟨#[]⟩ : ByteArray),(-1))) else (some (t311,wrap64 ((wrap64 (t310 + t312)) + t313))))) else (none)) else (none))) = some (r1,r2) := H
        have A6 := Aside0.mk A60
        clear A60
        by_cases c7 : t312 = 0
        · rw [if_pos c7] at H
          have c7b0 : (t312 == 0) = true := beq_iff_eq.mpr c7
          have c7b1 : (t312 != 0) = false := bne_eq_false_iff_eq.mpr c7
          clear c7
          simp only [Option.some.injEq,Prod.mk.injEq] at H
          obtain ⟨rfl,rfl⟩ := H
          go_enter Tryz.func35,Tryz.ntmps35
          go_wp2_with (first | ((with_reducible refine gate_callee (f := 33) rfl ?_);refine goesL_ (some 9) rfl rfl Tryz.func33 (by kernel_rfl) rfl #[.string a0] rfl (by (try simp only [List.map_toArray,List.map_cons,List.map_nil]);first | done | rfl | (simp only [List.length_drop,List.length_take];rfl)) ?_;(with_reducible refine (incipitref10_gap.calls k a0 t310 _ A2.out).mono ?_);rintro e w' ⟨rfl,⟨nd,rfl⟩⟩;refine ⟨_,rfl,?_⟩) | ((with_reducible refine gate_callee (f := 60) rfl ?_);refine goesL_ (some 16) rfl rfl Tryz.func60 (by kernel_rfl) rfl #[.string (a0.extract (t310 : Int).toNat a0.size)] rfl (by (try simp only [List.map_toArray,List.map_cons,List.map_nil]);first | done | rfl | (simp only [List.length_drop,List.length_take];rfl)) ?_;(with_reducible refine (incipitref09_Title.calls k (a0.extract (t310 : Int).toNat a0.size) t311 t312 _ A6.out).mono ?_);rintro e w8 ⟨rfl,hb⟩;refine ⟨_,rfl,?_⟩;have n0_ := Aside0.mk (below_step (by repeat (first | (with_reducible first | exact HB.out | apply below_alloc | apply pw_below_drewN | apply below_drew1) | exact HB.out)) hb);clear HB;have HB := n0_;clear n0_;(try clear hb);(try clear hb2);(try clear hk);(try clear hi)))
          go_ret2
          exact ⟨by first | rfl | exact retNe _ | (simp [errW_none,errW_some] <;> rfl) | (simp [*,errW_none,errW_some] <;> rfl),by repeat (first | (with_reducible first | exact HB.out | apply below_alloc | apply pw_below_drewN | apply below_drew1) | exact HB.out)⟩
        · rw [if_neg c7] at H
          have c7b0 : (t312 == 0) = false := beq_eq_false_iff_ne.mpr c7
          have c7b1 : (t312 != 0) = true := bne_iff_ne.mpr c7
          obtain ⟨ji9,hji9⟩ : ∃ j_ : Int,(wrap64 (t310 + t312)) = j_ := ⟨_,rfl⟩
          replace H : (if 0 ≤ (ji9) then (if (ji9) ≤ (a0.size : Int) then ((incipitref10_end.f k (a0.extract ((ji9) : Int).toNat a0.size)).bind fun t313 => (if t313 < 0 then (some ((⟨#[]⟩ : ByteArray),(-1))) else (some (t311,wrap64 ((ji9) + t313))))) else (none)) else (none)) = some (r1,r2) := by first | (rw [hji9] at H;exact H) | (simp only [hji9] at H ⊢;exact H)
          (try rw [hji9] at A2)
          (try rw [hji9] at A6)
          have hji9w : (IntKind.i64.wrap (t310 + t312)) = ji9 := (i64_w _).trans hji9
          by_cases c10 : 0 ≤ (ji9)
          · rw [if_pos c10] at H
            have c10b0 := eq_true c10
            have c10b1 : decide (0 ≤ (ji9)) = true := decide_eq_true c10
            clear c10
            by_cases c11 : (ji9) ≤ (a0.size : Int)
            · rw [if_pos c11] at H
              have c11b0 := eq_true c11
              have c11b1 : decide ((ji9) ≤ (a0.size : Int)) = true := decide_eq_true c11
              clear c11
              replace H := Option.bind_eq_some_iff.mp H
              obtain ⟨t313,A120,H⟩ := H
              replace H : (if t313 < 0 then (some ((⟨#[]⟩ : ByteArray),(-1))) else (some (t311,wrap64 ((ji9) + t313)))) = some (r1,r2) := H
              have A12 := Aside0.mk A120
              clear A120
              by_cases c13 : t313 < 0
              · rw [if_pos c13] at H
                have c13b0 : decide (t313 < 0) = true := decide_eq_true c13
                clear c13
                simp only [Option.some.injEq,Prod.mk.injEq] at H
                obtain ⟨rfl,rfl⟩ := H
                go_enter Tryz.func35,Tryz.ntmps35
                go_wp2_with (first | ((with_reducible refine gate_callee (f := 33) rfl ?_);refine goesL_ (some 9) rfl rfl Tryz.func33 (by kernel_rfl) rfl #[.string a0] rfl (by (try simp only [List.map_toArray,List.map_cons,List.map_nil]);first | done | rfl | (simp only [List.length_drop,List.length_take];rfl)) ?_;(with_reducible refine (incipitref10_gap.calls k a0 t310 _ A2.out).mono ?_);rintro e w' ⟨rfl,⟨nd,rfl⟩⟩;refine ⟨_,rfl,?_⟩) | ((with_reducible refine gate_callee (f := 60) rfl ?_);refine goesL_ (some 16) rfl rfl Tryz.func60 (by kernel_rfl) rfl #[.string (a0.extract (t310 : Int).toNat a0.size)] rfl (by (try simp only [List.map_toArray,List.map_cons,List.map_nil]);first | done | rfl | (simp only [List.length_drop,List.length_take];rfl)) ?_;(with_reducible refine (incipitref09_Title.calls k (a0.extract (t310 : Int).toNat a0.size) t311 t312 _ A6.out).mono ?_);rintro e w14 ⟨rfl,hb⟩;refine ⟨_,rfl,?_⟩;have n0_ := Aside0.mk (below_step (by repeat (first | (with_reducible first | exact HB.out | apply below_alloc | apply pw_below_drewN | apply below_drew1) | exact HB.out)) hb);clear HB;have HB := n0_;clear n0_;(try clear hb);(try clear hb2);(try clear hk);(try clear hi)) | ((with_reducible refine gate_callee (f := 36) rfl ?_);refine goesL_ (some 26) rfl rfl Tryz.func36 (by kernel_rfl) rfl #[.string (a0.extract ((ji9) : Int).toNat a0.size)] rfl (by (try simp only [List.map_toArray,List.map_cons,List.map_nil]);first | done | (simp only [hji9];rfl) | rfl | (simp only [List.length_drop,List.length_take];rfl)) ?_;(with_reducible refine (incipitref10_end.calls k (a0.extract ((ji9) : Int).toNat a0.size) t313 _ A12.out).mono ?_);rintro e w' ⟨rfl,⟨nd,rfl⟩⟩;refine ⟨_,rfl,?_⟩))
                go_ret2
                exact ⟨by first | rfl | exact retNe _ | (simp [errW_none,errW_some] <;> rfl) | (simp only [← hji9];first | rfl | (simp [errW_none,errW_some] <;> rfl)) | (simp [*,errW_none,errW_some] <;> rfl),by repeat (first | (with_reducible first | exact HB.out | apply below_alloc | apply pw_below_drewN | apply below_drew1) | exact HB.out)⟩
              · rw [if_neg c13] at H
                have c13b0 : decide (t313 < 0) = false := decide_eq_false c13
                clear c13
                simp only [Option.some.injEq,Prod.mk.injEq] at H
                obtain ⟨rfl,rfl⟩ := H
                go_enter Tryz.func35,Tryz.ntmps35
                go_wp2_with (first | ((with_reducible refine gate_callee (f := 33) rfl ?_);refine goesL_ (some 9) rfl rfl Tryz.func33 (by kernel_rfl) rfl #[.string a0] rfl (by (try simp only [List.map_toArray,List.map_cons,List.map_nil]);first | done | rfl | (simp only [List.length_drop,List.length_take];rfl)) ?_;(with_reducible refine (incipitref10_gap.calls k a0 t310 _ A2.out).mono ?_);rintro e w' ⟨rfl,⟨nd,rfl⟩⟩;refine ⟨_,rfl,?_⟩) | ((with_reducible refine gate_callee (f := 60) rfl ?_);refine goesL_ (some 16) rfl rfl Tryz.func60 (by kernel_rfl) rfl #[.string (a0.extract (t310 : Int).toNat a0.size)] rfl (by (try simp only [List.map_toArray,List.map_cons,List.map_nil]);first | done | rfl | (simp only [List.length_drop,List.length_take];rfl)) ?_;(with_reducible refine (incipitref09_Title.calls k (a0.extract (t310 : Int).toNat a0.size) t311 t312 _ A6.out).mono ?_);rintro e w15 ⟨rfl,hb⟩;refine ⟨_,rfl,?_⟩;have n0_ := Aside0.mk (below_step (by repeat (first | (with_reducible first | exact HB.out | apply below_alloc | apply pw_below_drewN | apply below_drew1) | exact HB.out)) hb);clear HB;have HB := n0_;clear n0_;(try clear hb);(try clear hb2);(try clear hk);(try clear hi)) | ((with_reducible refine gate_callee (f := 36) rfl ?_);refine goesL_ (some 26) rfl rfl Tryz.func36 (by kernel_rfl) rfl #[.string (a0.extract ((ji9) : Int).toNat a0.size)] rfl (by (try simp only [List.map_toArray,List.map_cons,List.map_nil]);first | done | (simp only [hji9];rfl) | rfl | (simp only [List.length_drop,List.length_take];rfl)) ?_;(with_reducible refine (incipitref10_end.calls k (a0.extract ((ji9) : Int).toNat a0.size) t313 _ A12.out).mono ?_);rintro e w' ⟨rfl,⟨nd,rfl⟩⟩;refine ⟨_,rfl,?_⟩))
                go_ret2
                exact ⟨by first | rfl | exact retNe _ | (simp [errW_none,errW_some] <;> rfl) | (simp only [← hji9];first | rfl | (simp [errW_none,errW_some] <;> rfl)) | (simp [*,errW_none,errW_some] <;> rfl),by repeat (first | (with_reducible first | exact HB.out | apply below_alloc | apply pw_below_drewN | apply below_drew1) | exact HB.out)⟩
            · rw [if_neg c11] at H
              exact absurd H (by simp)
          · rw [if_neg c10] at H
            exact absurd H (by simp)
      · rw [if_neg c5] at H
        exact absurd H (by simp)
    · rw [if_neg c4] at H
      exact absurd H (by simp)

end Go.Proofs.YtekifcbokdidlaaGreatDoor.PA

namespace Go.Proofs.YtekifcbokdidlaaGreatDoor.Pure
open Go.RowKit Go.Proofs.YtekifcbokdidlaaGreatDoorW.PrintWords Go.Proofs.YtekifcbokdidlaaGreatDoorW.PrintMore Go.Proofs.YtekifcbokdidlaaGreatDoor.Pl Go.Proofs.YtekifcbokdidlaaGreatDoor.PA

theorem rwhite1 (x : UInt8) : incipitref09_white.f (x.toNat : Int) = some (wsp x) := by
  have h : ∀ y : Fin 256,incipitref09_white.f (((UInt8.ofNat y.val).toNat : Nat) : Int) = some (wsp (UInt8.ofNat y.val)) := by decide +kernel
  have := h ⟨x.toNat,x.toNat_lt⟩
  rwa [show UInt8.ofNat x.toNat = x from UInt8.ofNat_toNat] at this
theorem bt_mid (p r : List UInt8) (x : UInt8) : bt (B (p ++ x :: r)) (p.length : Int) = (x.toNat : Int) := by
  rw [B_bt (p ++ x :: r) p.length (by simp)]
  simp
theorem winc {i : Nat} (h : i ≤ 1048576) : wrap64 ((i : Int) + 1) = ((i + 1 : Nat) : Int) := w64 (by omega) (by omega)
theorem lt_sz (p r : List UInt8) (x : UInt8) : ((p.length : Nat) : Int) < ((B (p ++ x :: r)).size : Int) := by rw [B_size];simp;omega
theorem nlt_sz (p : List UInt8) : ¬ ((p.length : Nat) : Int) < ((B p).size : Int) := by rw [B_size];omega
theorem snoc (p r : List UInt8) (x : UInt8) : p ++ x :: r = (p ++ [x]) ++ r := by simp
theorem snoc_len (p : List UInt8) (x : UInt8) : (p ++ [x]).length = p.length + 1 := by simp
theorem rwhite_l : ∀ (r p : List UInt8),p.length + r.length ≤ 1048576 → Ev (fun k => incipitref09_White.l0 k (B (p ++ r)) (p.length : Int)) ((p.length + wht r : Nat) : Int)
 | [],p,_ => by
  refine Ev.step (f := fun _ => some ((p.length : Nat) : Int)) (fun k => ?_) (Ev.now _)
  simp only [incipitref09_White.l0]
  rw [List.append_nil,if_neg (nlt_sz p)]
 | x :: r,p,h => by
  rw [List.length_cons] at h
  rw [wht_cons]
  by_cases hw : wsp x = true
  ·have ih := rwhite_l r (p ++ [x]) (by rw [snoc_len];omega)
   rw [← snoc,snoc_len] at ih
   rw [if_pos hw,show p.length + (wht r + 1) = p.length + 1 + wht r by omega]
   refine Ev.step (fun k => ?_) ih
   simp only [incipitref09_White.l0]
   rw [if_pos (lt_sz p r x),if_pos (nn _),bt_mid,rwhite1,Option.bind_some,if_pos hw,winc (by omega)]
  ·rw [if_neg hw]
   refine Ev.step (f := fun _ => some ((p.length : Nat) : Int)) (fun k => ?_) (Ev.now _)
   simp only [incipitref09_White.l0]
   rw [if_pos (lt_sz p r x),if_pos (nn _),bt_mid,rwhite1,Option.bind_some,if_neg hw]
theorem rwhite_ev (s : List UInt8) (h : s.length ≤ 1048576) : Ev (fun k => incipitref09_White.f k (B s)) ((wht s : Nat) : Int) := by
  have := rwhite_l s [] (by simpa using h)
  rw [List.nil_append,List.length_nil,Nat.zero_add] at this
  exact this
/-- Which bytes of a text are escaped. -/
def mk : List UInt8 → List Bool
  | [] => []
  | [_] => [false]
  | x :: y :: t => if x = 92 ∧ sgn y = true then false :: true :: mk t else false :: mk (y :: t)
theorem mk_esc (x y : UInt8) (t : List UInt8) (h : x = 92) (h2 : sgn y = true) : mk (x :: y :: t) = false :: true :: mk t := by rw [mk,if_pos ⟨h,h2⟩]
theorem mk_one (x : UInt8) (t : List UInt8) (h : x = 92 → ∀ y u,t = y :: u → sgn y = false) : mk (x :: t) = false :: mk t := by
  cases t with
  | nil => rfl
  | cons y u =>
    rw [mk,if_neg]
    rintro ⟨h1,h2⟩
    rw [h h1 y u rfl] at h2
    cases h2
theorem mk_len : ∀ s : List UInt8,(mk s).length = s.length
  | [] => rfl
  | [_] => rfl
  | x :: y :: t => by
    unfold mk
    split
    · simp [mk_len t]
    · simp [mk_len (y :: t)]
theorem set_mid (P : List Bool) (n : Nat) : (P ++ List.replicate (n + 2) false).set (P.length + 1) true = P ++ [false,true] ++ List.replicate n false := by
  rw [List.set_append_right _ _ (by omega),show P.length + 1 - P.length = 1 by omega,List.replicate_succ,List.replicate_succ]
  simp
theorem marks_l : ∀ (r p : List UInt8) (P : List Bool),P.length = p.length → p.length + r.length ≤ 1048576 →
  Ev (fun k => incipitref09_marks.l0 k (B (p ++ r)) (P ++ List.replicate r.length false) (p.length : Int)) (P ++ mk r)
 | [],p,P,hP,h => by
  refine Ev.step (f := fun _ => some (P ++ [])) (fun k => ?_) (Ev.now _)
  simp only [incipitref09_marks.l0]
  rw [List.append_nil,winc (by simp at h;omega),if_neg (by rw [B_size];omega)]
  rfl
 | [x],p,P,hP,h => by
  refine Ev.step (f := fun _ => some (P ++ [false])) (fun k => ?_) (Ev.now _)
  simp only [incipitref09_marks.l0]
  rw [winc (by simp at h;omega),if_neg (by rw [B_size];simp)]
  rfl
 | x :: y :: t,p,P,hP,h => by
  simp only [List.length_cons] at h
  have hlt : (((p.length + 1 : Nat)) : Int) < ((B (p ++ x :: y :: t)).size : Int) := by rw [B_size];simp;omega
  have b1 : bt (B (p ++ x :: y :: t)) (((p.length + 1 : Nat)) : Int) = (y.toNat : Int) := by
   have := bt_mid (p ++ [x]) t y
   rw [← snoc,snoc_len] at this
   exact this
  have c92 : ((x.toNat : Int) = 92) ↔ x = 92 := u8_eq _ 92 (by omega)
  have hone : (¬ (x = 92 ∧ sgn y = true)) → Ev (fun k => incipitref09_marks.l0 k (B (p ++ x :: y :: t)) (P ++ List.replicate (x :: y :: t).length false) (((p.length + 1 : Nat)) : Int)) (P ++ mk (x :: y :: t)) := by
   intro hc
   have ih := marks_l (y :: t) (p ++ [x]) (P ++ [false]) (by simp [hP]) (by rw [snoc_len,List.length_cons];omega)
   rw [← snoc,snoc_len,List.append_assoc] at ih
   have hm : mk (x :: y :: t) = false :: mk (y :: t) := mk_one x (y :: t) (by
    rintro e y' u' e2
    cases e2
    cases hs : sgn y with
    | false => rfl
    | true => exact absurd ⟨e,hs⟩ hc)
   rw [hm,show P ++ false :: mk (y :: t) = P ++ [false] ++ mk (y :: t) by simp,List.length_cons,List.replicate_succ]
   exact ih
  by_cases h1 : x = 92
  ·cases hs : sgn y with
   | true =>
    have ih := marks_l t (p ++ [x] ++ [y]) (P ++ [false,true]) (by simp [hP]) (by rw [snoc_len,snoc_len];omega)
    rw [← snoc,← snoc,snoc_len,snoc_len] at ih
    rw [mk_esc x y t h1 hs,show P ++ false :: true :: mk t = P ++ [false,true] ++ mk t by simp]
    refine Ev.step (fun k => ?_) ih
    simp only [incipitref09_marks.l0]
    rw [winc (by omega),if_pos hlt,if_pos (nn _),if_pos (lt_sz p _ x),bt_mid,if_pos (c92.2 h1),if_pos (nn _),b1,rsign_eq,Option.bind_some,hs,if_pos (by first | trivial | rfl),if_pos (by simp [hP];omega),winc (by omega),Int.toNat_natCast]
    have := set_mid P t.length
    rw [hP] at this
    simp only [List.length_cons]
    rw [this]
   | false =>
    refine Ev.step (fun k => ?_) (hone (fun e => by rw [hs] at e;cases e.2))
    simp only [incipitref09_marks.l0]
    rw [winc (by omega),if_pos hlt,if_pos (nn _),if_pos (lt_sz p _ x),bt_mid,if_pos (c92.2 h1),if_pos (nn _),b1,rsign_eq,Option.bind_some,hs,if_neg (by decide)]
  ·refine Ev.step (fun k => ?_) (hone (fun e => h1 e.1))
   simp only [incipitref09_marks.l0]
   rw [winc (by omega),if_pos hlt,if_pos (nn _),if_pos (lt_sz p _ x),bt_mid,if_neg (fun e => h1 (c92.1 e))]
theorem marks_ev (s : List UInt8) (h : s.length ≤ 1048576) : Ev (fun k => incipitref09_marks.f k (B s)) (mk s) := by
  have := marks_l s [] [] rfl (by simpa using h)
  rw [List.nil_append,List.nil_append,List.nil_append,List.length_nil] at this
  unfold incipitref09_marks.f
  refine Ev.congr (fun k => ?_) this
  rw [if_pos (nn _),Int.toNat_natCast,B_size,if_pos (by omega)]
  rfl
theorem rd_mid (P : List Bool) (b : Bool) (t : List Bool) (i : Nat) (h : P.length = i) : rdOf false (P ++ b :: t) (i : Int) = b := by
  unfold rdOf
  rw [Int.toNat_natCast,List.getD_eq_getElem?_getD,← h]
  simp
/-! #### Label -/
theorem rlabel_l : ∀ (n : Nat) (r q : List UInt8) (Q : List Bool),r.length ≤ n → Q.length = q.length → (91 :: (q ++ r)).length ≤ 2000 → mk (91 :: (q ++ r)) = (false :: Q) ++ mk r → eachL pLab (q ++ r) = q.length + eachL pLab r →
  Ev (fun k => incipitref09_Label.l0 k (B (91 :: (q ++ r))) (mk (91 :: (q ++ r))) (((q.length + 1 : Nat)) : Int)) (B (lab (91 :: (q ++ r))).1,((lab (91 :: (q ++ r))).2 : Int))
 | _,[],q,Q,_,hQ,hl,hM,hE => by
  have e : lab (91 :: (q ++ [])) = ([],0) := by rw [lab_cons,if_pos rfl,hE];simp [eachL]
  rw [e]
  refine Ev.step (f := fun _ => some (B [],0)) (fun k => ?_) (Ev.now _)
  simp only [incipitref09_Label.l0]
  rw [if_neg (by rw [B_size];simp)]
  rfl
 | 0,x :: t,q,Q,hn,hQ,hl,hM,hE => by simp at hn
 | n + 1,x :: t,q,Q,hn,hQ,hl,hM,hE => by
  simp only [List.length_cons] at hn
  have hl2 : q.length + t.length + 2 ≤ 2000 := by simp at hl;omega
  have hlt : (((q.length + 1 : Nat)) : Int) < ((B (91 :: (q ++ x :: t))).size : Int) := by rw [B_size];simp;omega
  have hltm : (((q.length + 1 : Nat)) : Int) < ((mk (91 :: (q ++ x :: t))).length : Int) := by rw [mk_len];simp;omega
  have hb : bt (B (91 :: (q ++ x :: t))) (((q.length + 1 : Nat)) : Int) = (x.toNat : Int) := bt_mid (91 :: q) t x
  by_cases he : x = 92 ∧ ∃ y u,t = y :: u ∧ sgn y = true
  ·obtain ⟨h92,y,u,rfl,hs⟩ := he
   rw [List.length_cons] at hn hl2
   rw [mk_esc x y u h92 hs] at hM
   rw [each_esc pLab x y u h92 hs] at hE
   have ih := rlabel_l n u (q ++ [x] ++ [y]) (Q ++ [false,true]) (by omega) (by simp [hQ]) (by simp;omega) (by rw [← snoc,← snoc,hM];simp) (by rw [← snoc,← snoc,hE];simp;omega)
   rw [← snoc,← snoc,snoc_len,snoc_len] at ih
   have hb1 : bt (B (91 :: (q ++ x :: y :: u))) (((q.length + 1 + 1 : Nat)) : Int) = (y.toNat : Int) := by
    have := bt_mid (91 :: q ++ [x]) u y
    simpa using this
   have hr0 : rdOf false (mk (91 :: (q ++ x :: y :: u))) (((q.length + 1 : Nat)) : Int) = false := by rw [hM];exact rd_mid (false :: Q) false _ _ (by simp [hQ])
   have hr1 : rdOf false (mk (91 :: (q ++ x :: y :: u))) (((q.length + 1 + 1 : Nat)) : Int) = true := by rw [hM,show (false :: Q) ++ false :: true :: mk u = (false :: Q ++ [false]) ++ true :: mk u by simp];exact rd_mid _ true _ _ (by simp [hQ])
   refine Ev.step (f := fun k => incipitref09_Label.l0 k (B (91 :: (q ++ x :: y :: u))) (mk (91 :: (q ++ x :: y :: u))) (((q.length + 1 + 1 : Nat)) : Int)) (fun k => ?_) (Ev.step (fun k => ?_) ih)
   ·simp only [incipitref09_Label.l0]
    rw [if_pos hlt,if_pos (nn _),if_pos hltm,hr0,if_neg (by decide),hb,if_neg (by rw [h92];decide),if_neg (by rw [h92];decide),winc (by omega)]
   ·simp only [incipitref09_Label.l0]
    rw [if_pos (by rw [B_size];simp;omega),if_pos (nn _),if_pos (by rw [mk_len];simp;omega),hr1,if_pos (by first | trivial | rfl),winc (by omega)]
  ·have h3 : x = 92 → ∀ y u,t = y :: u → sgn y = false := by
    intro e y u e2
    cases hs : sgn y with
    | false => rfl
    | true => exact absurd ⟨e,y,u,e2,hs⟩ he
   rw [mk_one x t h3] at hM
   have hr0 : rdOf false (mk (91 :: (q ++ x :: t))) (((q.length + 1 : Nat)) : Int) = false := by rw [hM];exact rd_mid (false :: Q) false _ _ (by simp [hQ])
   have c91 : ((x.toNat : Int) = 91) ↔ x = 91 := u8_eq _ 91 (by omega)
   have c93 : ((x.toNat : Int) = 93) ↔ x = 93 := u8_eq _ 93 (by omega)
   have hE1 := each_one pLab x t h3
   by_cases hp : pLab x = true
   ·rw [hE1,if_pos hp,Nat.add_zero] at hE
    have hl4 := lab_at q t x hE
    by_cases h91 : x = 91
    ·rw [if_pos (.inl h91)] at hl4
     rw [hl4]
     refine Ev.step (f := fun _ => some (B [],0)) (fun k => ?_) (Ev.now _)
     simp only [incipitref09_Label.l0]
     rw [if_pos hlt,if_pos (nn _),if_pos hltm,hr0,if_neg (by decide),hb,if_pos (c91.2 h91)]
     rfl
    ·have h93 : x = 93 := by
      unfold pLab at hp
      simp only [Bool.or_eq_true,decide_eq_true_eq] at hp
      exact hp.resolve_left h91
     by_cases hbig : 999 < q.length
     ·rw [if_pos (.inr (.inl hbig))] at hl4
      rw [hl4]
      refine Ev.step (f := fun _ => some (B [],0)) (fun k => ?_) (Ev.now _)
      simp only [incipitref09_Label.l0]
      rw [if_pos hlt,if_pos (nn _),if_pos hltm,hr0,if_neg (by decide),hb,if_neg (fun e => h91 (c91.1 e)),if_pos (c93.2 h93),if_pos (by omega)]
      rfl
     ·have hx : (B (91 :: (q ++ x :: t))).extract 1 ((((q.length + 1 : Nat)) : Int)).toNat = B q := by
       rw [Int.toNat_natCast,B_extract,List.drop_succ_cons,List.drop_zero,Nat.add_sub_cancel,List.take_left' rfl]
      have hw := rwhite_ev q (by omega)
      have hwl := wht_le q
      refine Ev.step (f := fun k => (incipitref09_White.f k (B q)).bind _) (fun k => by
       simp only [incipitref09_Label.l0]
       rw [if_pos hlt,if_pos (nn _),if_pos hltm,hr0,if_neg (by decide),hb,if_neg (fun e => h91 (c91.1 e)),if_pos (c93.2 h93),if_neg (by omega),if_pos (by omega),if_pos (by rw [B_size];simp;omega),hx]) (Ev.bind hw ?_)
      have hwr : wrap64 ((((q.length + 1 : Nat)) : Int) - 1) = (q.length : Int) := by rw [w64 (by omega) (by omega)];omega
      by_cases hwq : wht q = q.length
      ·rw [if_pos (.inr (.inr hwq))] at hl4
       rw [hl4]
       refine Ev.congr (f := fun _ => some (B [],0)) (fun k => ?_) (Ev.now _)
       rw [hwr,if_pos (by omega)]
       rfl
      ·rw [if_neg (by rintro (e | e | e);exact h91 e;exact hbig e;exact hwq e)] at hl4
       rw [hl4]
       refine Ev.congr (f := fun _ => some (B q,((q.length + 2 : Nat) : Int))) (fun k => ?_) (Ev.now _)
       rw [hwr,if_neg (by omega),winc (by omega)]
   ·rw [hE1,if_neg hp] at hE
    have ih := rlabel_l n t (q ++ [x]) (Q ++ [false]) (by omega) (by simp [hQ]) (by simp;omega) (by rw [← snoc,hM];simp) (by rw [← snoc,hE];simp;omega)
    rw [← snoc,snoc_len] at ih
    have hne : x ≠ 91 ∧ x ≠ 93 := (lab_plain x).1 (by simpa using hp)
    refine Ev.step (fun k => ?_) ih
    simp only [incipitref09_Label.l0]
    rw [if_pos hlt,if_pos (nn _),if_pos hltm,hr0,if_neg (by decide),hb,if_neg (fun e => hne.1 (c91.1 e)),if_neg (fun e => hne.2 (c93.1 e)),winc (by omega)]
theorem rlabel_ev (s : List UInt8) (h : s.length ≤ 2000) : Ev (fun k => incipitref09_Label.f k (B s)) (B (lab s).1,((lab s).2 : Int)) := by
 unfold incipitref09_Label.f
 have hno : Ev (fun k => incipitref09_Label.j0 k (B s) true) (B [],(0 : Int)) := by
  refine Ev.step (f := fun _ => some (B [],0)) (fun k => ?_) (Ev.now _)
  simp only [incipitref09_Label.j0]
  exact if_pos (by first | trivial | rfl)
 cases s with
 | nil => exact Ev.congr (fun k => if_pos (by exact B_toList [])) hno
 | cons x t =>
  have c91 : ((x.toNat : Int) = 91) ↔ x = 91 := u8_eq _ 91 (by omega)
  have hb : bt (B (x :: t)) 0 = (x.toNat : Int) := B_bt (x :: t) 0 (by simp)
  refine Ev.congr (f := fun k => incipitref09_Label.j0 k (B (x :: t)) ((x.toNat : Int) != 91)) (fun k => by rw [if_neg (by rw [B_toList];simp),if_pos (by rw [B_size];simp),hb]) ?_
  by_cases h91 : x = 91
  ·rw [show ((x.toNat : Int) != 91) = false by rw [bne,beq_iff_eq.2 (c91.2 h91)];rfl]
   subst h91
   have hm := marks_ev (91 :: t) (by omega)
   have hl := rlabel_l t.length t [] [] (Nat.le_refl _) rfl h (mk_one 91 t (fun e => absurd e (by decide))) (by simp)
   refine Ev.step (f := fun k => (incipitref09_marks.f k (B (91 :: t))).bind _) (fun k => by simp only [incipitref09_Label.j0];rw [if_neg (by decide)]) (Ev.bind hm ?_)
   exact hl
  ·rw [show ((x.toNat : Int) != 91) = true by rw [bne,beq_eq_false_iff_ne.2 (fun e => h91 (c91.1 e))];rfl,lab_no x t h91]
   exact hno
/-! #### gap -/
/-- Blanks, and then LF. -/
def nb : List UInt8 → Bool
  | [] => false
  | x :: t => if x = 10 then true else if x = 32 ∨ x = 9 then nb t else false
theorem gp_true : ∀ r : List UInt8,gp true r = (nb r || gp false r)
  | [] => rfl
  | x :: t => by
    by_cases h : x = 10
    · rw [gp,if_pos h,nb,if_pos h];rfl
    · by_cases h2 : x = 32 ∨ x = 9
      · have hb : (decide (x = 32) || decide (x = 9)) = true := by simpa using h2
        rw [gp,if_neg h,nb,if_neg h,if_pos h2,hb,Bool.and_self,gp_true t,gp,if_neg h,Bool.false_and]
      · have hb : (decide (x = 32) || decide (x = 9)) = false := by simpa using h2
        rw [gp,if_neg h,nb,if_neg h,if_neg h2,hb,Bool.and_false,gp,if_neg h,Bool.false_and,Bool.false_or]
theorem rgap1 {G : Bool} (i : Nat) : ∀ (r p : List UInt8),p.length + r.length ≤ 1048576 → i ≤ 1048576 → Ev (fun k => incipitref09_gap.l0 k (B (p ++ r)) (((i + 1 : Nat)) : Int)) G →
  Ev (fun k => incipitref09_gap.l1 k (B (p ++ r)) (i : Int) (p.length : Int)) (nb r || G)
 | [],p,_,hi,hG => by
  rw [List.append_nil] at hG ⊢
  refine Ev.step (fun k => ?_) hG
  simp only [incipitref09_gap.l1]
  rw [if_neg (nlt_sz p),winc hi]
 | x :: r,p,h,hi,hG => by
  rw [List.length_cons] at h
  have c32 : ((x.toNat : Int) = 32) ↔ x = 32 := u8_eq _ 32 (by omega)
  have c9 : ((x.toNat : Int) = 9) ↔ x = 9 := u8_eq _ 9 (by omega)
  have c10 : ((x.toNat : Int) = 10) ↔ x = 10 := u8_eq _ 10 (by omega)
  have ih := rgap1 i r (p ++ [x]) (by rw [snoc_len];omega) hi (by rw [← snoc];exact hG)
  rw [← snoc,snoc_len] at ih
  by_cases h32 : x = 32
  ·rw [nb,if_neg (by rw [h32];decide),if_pos (.inl h32)]
   refine Ev.step (fun k => ?_) ih
   simp only [incipitref09_gap.l1]
   rw [if_pos (lt_sz p r x),if_pos (nn _),bt_mid,if_pos (c32.2 h32),winc (by omega)]
  ·by_cases h9 : x = 9
   ·rw [nb,if_neg (by rw [h9];decide),if_pos (.inr h9)]
    refine Ev.step (fun k => ?_) ih
    simp only [incipitref09_gap.l1]
    rw [if_pos (lt_sz p r x),if_pos (nn _),bt_mid,if_neg (fun e => h32 (c32.1 e)),if_pos (c9.2 h9),winc (by omega)]
   ·by_cases h10 : x = 10
    ·rw [nb,if_pos h10,Bool.true_or]
     refine Ev.step (f := fun _ => some true) (fun k => ?_) (Ev.now _)
     simp only [incipitref09_gap.l1]
     rw [if_pos (lt_sz p r x),if_pos (nn _),bt_mid,if_neg (fun e => h32 (c32.1 e)),if_neg (fun e => h9 (c9.1 e)),if_pos (c10.2 h10)]
    ·rw [nb,if_neg h10,if_neg (by rintro (e | e);exact h32 e;exact h9 e),Bool.false_or]
     refine Ev.step (fun k => ?_) hG
     simp only [incipitref09_gap.l1]
     rw [if_pos (lt_sz p r x),if_pos (nn _),bt_mid,if_neg (fun e => h32 (c32.1 e)),if_neg (fun e => h9 (c9.1 e)),if_neg (fun e => h10 (c10.1 e)),winc hi]
theorem rgap0 : ∀ (r p : List UInt8),p.length + r.length ≤ 1048576 → Ev (fun k => incipitref09_gap.l0 k (B (p ++ r)) (p.length : Int)) (gp false r)
 | [],p,_ => by
  refine Ev.step (f := fun _ => some false) (fun k => ?_) (Ev.now _)
  simp only [incipitref09_gap.l0]
  rw [List.append_nil,if_neg (nlt_sz p)]
 | x :: r,p,h => by
  rw [List.length_cons] at h
  have c10 : ((x.toNat : Int) = 10) ↔ x = 10 := u8_eq _ 10 (by omega)
  have ih := rgap0 r (p ++ [x]) (by rw [snoc_len];omega)
  rw [← snoc,snoc_len] at ih
  by_cases h10 : x = 10
  ·rw [gp,if_pos h10,Bool.false_or,gp_true]
   have h1 := rgap1 (G := gp false r) p.length r (p ++ [x]) (by rw [snoc_len];omega) (by omega) (by rw [← snoc];exact ih)
   rw [← snoc,snoc_len] at h1
   refine Ev.step (fun k => ?_) h1
   simp only [incipitref09_gap.l0]
   rw [if_pos (lt_sz p r x),if_pos (nn _),bt_mid,if_pos (c10.2 h10),winc (by omega)]
  ·rw [gp,if_neg h10,Bool.false_and]
   refine Ev.step (fun k => ?_) ih
   simp only [incipitref09_gap.l0]
   rw [if_pos (lt_sz p r x),if_pos (nn _),bt_mid,if_neg (fun e => h10 (c10.1 e)),winc (by omega)]
theorem rgap_ev (s : List UInt8) (h : s.length ≤ 1048576) : Ev (fun k => incipitref09_gap.f k (B s)) (gp false s) := by
  have := rgap0 s [] (by simpa using h)
  rw [List.nil_append] at this
  exact this
end Go.Proofs.YtekifcbokdidlaaGreatDoor.Pure

namespace Go.Proofs.YtekifcbokdidlaaGreatDoor.Pure
open Go.RowKit Go.Proofs.YtekifcbokdidlaaGreatDoorW.PrintWords Go.Proofs.YtekifcbokdidlaaGreatDoorW.PrintMore Go.Proofs.YtekifcbokdidlaaGreatDoor.Pl Go.Proofs.YtekifcbokdidlaaGreatDoor.PA

theorem ang_eq (t : List UInt8) : ang t = match t.drop (eachL pAng t) with
      | [] => ([],0,false)
      | y :: _ => if y = 62 then (une (t.take (eachL pAng t)),eachL pAng t + 2,true) else ([],0,false) := rfl
theorem ang_at (a t : List UInt8) (y : UInt8) (he : eachL pAng (a ++ y :: t) = a.length) : ang (a ++ y :: t) = if y = 62 then (une a,a.length + 2,true) else ([],0,false) := by
  rw [ang_eq,he,List.drop_left' rfl,List.take_left' rfl]
theorem sgn_ne10 (y : UInt8) (h : sgn y = true) : y ≠ 10 := by
  rintro rfl
  revert h
  decide +kernel
theorem rang_no (S : ByteArray) (M : List Bool) (i : Int) : Ev (fun k => incipitref09_angled.j1 k S M i true) ((B [],(0 : Int),false) : ByteArray × Int × Bool) := by
  refine Ev.step (f := fun _ => some (B [],0,false)) (fun k => ?_) (Ev.now _)
  simp only [incipitref09_angled.j1]
  exact if_pos (by first | trivial | rfl)
theorem rang_l : ∀ (n : Nat) (r q : List UInt8) (Q : List Bool),r.length ≤ n → Q.length = q.length → (60 :: (q ++ r)).length ≤ 2000 → mk (60 :: (q ++ r)) = (false :: Q) ++ mk r → eachL pAng (q ++ r) = q.length + eachL pAng r →
  Ev (fun k => incipitref09_angled.l0 k (B (60 :: (q ++ r))) (mk (60 :: (q ++ r))) (((q.length + 1 : Nat)) : Int)) (B (ang (q ++ r)).1,((ang (q ++ r)).2.1 : Int),(ang (q ++ r)).2.2)
 | _,[],q,Q,_,hQ,hl,hM,hE => by
  have e : ang (q ++ []) = ([],0,false) := by rw [ang_eq,hE];simp [eachL]
  rw [e]
  refine Ev.step (f := fun _ => some (B [],0,false)) (fun k => ?_) (Ev.now _)
  simp only [incipitref09_angled.l0]
  rw [if_neg (by rw [B_size];simp)]
  rfl
 | 0,x :: t,q,Q,hn,hQ,hl,hM,hE => by simp at hn
 | n + 1,x :: t,q,Q,hn,hQ,hl,hM,hE => by
  simp only [List.length_cons] at hn
  have hl2 : q.length + t.length + 2 ≤ 2000 := by simp at hl;omega
  have hlt : (((q.length + 1 : Nat)) : Int) < ((B (60 :: (q ++ x :: t))).size : Int) := by rw [B_size];simp <;> omega
  have hltm : (((q.length + 1 : Nat)) : Int) < ((mk (60 :: (q ++ x :: t))).length : Int) := by rw [mk_len];simp;omega
  have hb : bt (B (60 :: (q ++ x :: t))) (((q.length + 1 : Nat)) : Int) = (x.toNat : Int) := bt_mid (60 :: q) t x
  by_cases he : x = 92 ∧ ∃ y u,t = y :: u ∧ sgn y = true
  ·obtain ⟨h92,y,u,rfl,hs⟩ := he
   rw [List.length_cons] at hn hl2
   rw [mk_esc x y u h92 hs] at hM
   rw [each_esc pAng x y u h92 hs] at hE
   have ih := rang_l n u (q ++ [x] ++ [y]) (Q ++ [false,true]) (by omega) (by simp [hQ]) (by simp;omega) (by rw [← snoc,← snoc,hM];simp) (by rw [← snoc,← snoc,hE];simp;omega)
   rw [← snoc,← snoc,snoc_len,snoc_len] at ih
   have hlt1 : (((q.length + 1 + 1 : Nat)) : Int) < ((B (60 :: (q ++ x :: y :: u))).size : Int) := by rw [B_size];simp <;> omega
   have hltm1 : (((q.length + 1 + 1 : Nat)) : Int) < ((mk (60 :: (q ++ x :: y :: u))).length : Int) := by rw [mk_len];simp;omega
   have hb1 : bt (B (60 :: (q ++ x :: y :: u))) (((q.length + 1 + 1 : Nat)) : Int) = (y.toNat : Int) := by
    have := bt_mid (60 :: q ++ [x]) u y
    simpa using this
   have hr1 : rdOf false (mk (60 :: (q ++ x :: y :: u))) (((q.length + 1 + 1 : Nat)) : Int) = true := by rw [hM,show (false :: Q) ++ false :: true :: mk u = (false :: Q ++ [false]) ++ true :: mk u by simp];exact rd_mid _ true _ _ (by simp [hQ])
   have c10 : ((y.toNat : Int) = 10) ↔ y = 10 := u8_eq _ 10 (by omega)
   have c60 : ((y.toNat : Int) = 60) ↔ y = 60 := u8_eq _ 60 (by omega)
   have c62 : ((y.toNat : Int) = 62) ↔ y = 62 := u8_eq _ 62 (by omega)
   have h2 : Ev (fun k => incipitref09_angled.j1 k (B (60 :: (q ++ x :: y :: u))) (mk (60 :: (q ++ x :: y :: u))) (((q.length + 1 + 1 : Nat)) : Int) false) (B (ang (q ++ x :: y :: u)).1,((ang (q ++ x :: y :: u)).2.1 : Int),(ang (q ++ x :: y :: u)).2.2) := by
    refine Ev.step (fun k => ?_) ih
    simp only [incipitref09_angled.j1]
    rw [if_neg (by decide),if_pos (nn _),if_pos hlt1,hb1]
    by_cases h62 : y = 62
    ·rw [if_pos (c62.2 h62),if_pos hltm1,hr1,if_pos (by first | trivial | rfl),winc (by omega)]
    ·rw [if_neg (fun e => h62 (c62.1 e)),winc (by omega)]
   have h1 : Ev (fun k => incipitref09_angled.l0 k (B (60 :: (q ++ x :: y :: u))) (mk (60 :: (q ++ x :: y :: u))) (((q.length + 1 + 1 : Nat)) : Int)) (B (ang (q ++ x :: y :: u)).1,((ang (q ++ x :: y :: u)).2.1 : Int),(ang (q ++ x :: y :: u)).2.2) := by
    refine Ev.step (fun k => ?_) h2
    simp only [incipitref09_angled.l0]
    rw [if_pos hlt1,if_pos (nn _),hb1,if_neg (fun e => sgn_ne10 y hs (c10.1 e))]
    by_cases h60 : y = 60
    ·rw [if_pos (c60.2 h60),if_pos hltm1,hr1]
     rfl
    ·rw [if_neg (fun e => h60 (c60.1 e))]
   refine Ev.step (f := fun k => incipitref09_angled.j1 k (B (60 :: (q ++ x :: y :: u))) (mk (60 :: (q ++ x :: y :: u))) (((q.length + 1 : Nat)) : Int) false) (fun k => ?_) (Ev.step (fun k => ?_) h1)
   ·simp only [incipitref09_angled.l0]
    rw [if_pos hlt,if_pos (nn _),hb,if_neg (by rw [h92];decide),if_neg (by rw [h92];decide)]
   ·simp only [incipitref09_angled.j1]
    rw [if_neg (by decide),if_pos (nn _),if_pos hlt,hb,if_neg (by rw [h92];decide),winc (by omega)]
  ·have h3 : x = 92 → ∀ y u,t = y :: u → sgn y = false := by
    intro e y u e2
    cases hs : sgn y with
    | false => rfl
    | true => exact absurd ⟨e,y,u,e2,hs⟩ he
   rw [mk_one x t h3] at hM
   have hr0 : rdOf false (mk (60 :: (q ++ x :: t))) (((q.length + 1 : Nat)) : Int) = false := by rw [hM];exact rd_mid (false :: Q) false _ _ (by simp [hQ])
   have c10 : ((x.toNat : Int) = 10) ↔ x = 10 := u8_eq _ 10 (by omega)
   have c60 : ((x.toNat : Int) = 60) ↔ x = 60 := u8_eq _ 60 (by omega)
   have c62 : ((x.toNat : Int) = 62) ↔ x = 62 := u8_eq _ 62 (by omega)
   have hE1 := each_one pAng x t h3
   by_cases hp : pAng x = true
   ·rw [hE1,if_pos hp,Nat.add_zero] at hE
    rw [ang_at q t x hE]
    by_cases h62 : x = 62
    ·rw [if_pos h62]
     have hx : (B (60 :: (q ++ x :: t))).extract 1 ((((q.length + 1 : Nat)) : Int)).toNat = B q := by
      rw [Int.toNat_natCast,B_extract,List.drop_succ_cons,List.drop_zero,Nat.add_sub_cancel,List.take_left' rfl]
     have hu := runesc_ev q (by omega)
     have h1 : Ev (fun k => incipitref09_angled.j1 k (B (60 :: (q ++ x :: t))) (mk (60 :: (q ++ x :: t))) (((q.length + 1 : Nat)) : Int) false) (B (une q),((q.length + 2 : Nat) : Int),true) := by
      refine Ev.step (f := fun k => (incipitref05_Unescape.f k (B q)).bind _) (fun k => by
       simp only [incipitref09_angled.j1]
       rw [if_neg (by decide),if_pos (nn _),if_pos hlt,hb,if_pos (c62.2 h62),if_pos hltm,hr0,if_neg (by decide),if_pos (by omega),if_pos (by rw [B_size];simp <;> omega),hx]) (Ev.bind hu ?_)
      refine Ev.congr (f := fun _ => some (B (une q),((q.length + 2 : Nat) : Int),true)) (fun k => ?_) (Ev.now _)
      rw [winc (by omega)]
     refine Ev.step (fun k => ?_) h1
     simp only [incipitref09_angled.l0]
     rw [if_pos hlt,if_pos (nn _),hb,if_neg (by rw [h62];decide),if_neg (by rw [h62];decide)]
    ·rw [if_neg h62]
     refine Ev.step (fun k => ?_) (rang_no (B (60 :: (q ++ x :: t))) (mk (60 :: (q ++ x :: t))) (((q.length + 1 : Nat)) : Int))
     simp only [incipitref09_angled.l0]
     rw [if_pos hlt,if_pos (nn _),hb]
     by_cases h10 : x = 10
     ·rw [if_pos (c10.2 h10)]
     ·have h60 : x = 60 := by
       unfold pAng at hp
       simp only [Bool.or_eq_true,decide_eq_true_eq] at hp
       rcases hp with (hp | hp) | hp
       ·exact hp
       ·exact absurd hp h62
       ·exact absurd hp h10
      rw [if_neg (fun e => h10 (c10.1 e)),if_pos (c60.2 h60),if_pos hltm,hr0]
      rfl
   ·rw [hE1,if_neg hp] at hE
    have ih := rang_l n t (q ++ [x]) (Q ++ [false]) (by omega) (by simp [hQ]) (by simp;omega) (by rw [← snoc,hM];simp) (by rw [← snoc,hE];simp;omega)
    rw [← snoc,snoc_len] at ih
    have hne : x ≠ 60 ∧ x ≠ 62 ∧ x ≠ 10 := by
     unfold pAng at hp
     simp only [Bool.or_eq_true,decide_eq_true_eq,not_or] at hp
     exact ⟨hp.1.1,hp.1.2,hp.2⟩
    refine Ev.step (f := fun k => incipitref09_angled.j1 k (B (60 :: (q ++ x :: t))) (mk (60 :: (q ++ x :: t))) (((q.length + 1 : Nat)) : Int) false) (fun k => ?_) (Ev.step (fun k => ?_) ih)
    ·simp only [incipitref09_angled.l0]
     rw [if_pos hlt,if_pos (nn _),hb,if_neg (fun e => hne.2.2 (c10.1 e)),if_neg (fun e => hne.1 (c60.1 e))]
    ·simp only [incipitref09_angled.j1]
     rw [if_neg (by decide),if_pos (nn _),if_pos hlt,hb,if_neg (fun e => hne.2.1 (c62.1 e)),winc (by omega)]
/-! #### Dest -/
theorem dstL_deep : ∀ (n : Nat) (l : List UInt8) (o : Nat),l.length ≤ n → (dstL l o true).2.2 = true
 | _,[],o,_ => rfl
 | 0,x :: t,o,h => by simp at h
 | n + 1,x :: t,o,h => by
  have hd : dstd o true x = true := by unfold dstd;split <;> simp
  by_cases he : x = 92 ∧ ∃ y u,t = y :: u ∧ sgn y = true
  ·obtain ⟨h92,y,u,rfl,hs⟩ := he
   simp only [List.length_cons] at h
   rw [dst_esc x y u o true h92 hs]
   exact dstL_deep n u o (by omega)
  ·have h3 : x = 92 → ∀ y u,t = y :: u → sgn y = false := by
    intro e y u e2
    cases hs : sgn y with
    | false => rfl
    | true => exact absurd ⟨e,y,u,e2,hs⟩ he
   simp only [List.length_cons] at h
   rw [dst_one x t o true h3]
   split
   ·rfl
   ·rw [hd]
    exact dstL_deep n t _ (by omega)
/-- What an address is, told by how far it goes, how many are open and whether they were too deep. -/
def dOut (s : List UInt8) (k o : Nat) (d : Bool) : List UInt8 × Nat × Bool := if k = 0 ∨ 0 < o ∨ d = true then ([],0,false) else (une (s.take k),k,true)
theorem rdst_end (s : List UInt8) (hs : s.length ≤ 2000) (k o : Nat) (hk : k ≤ s.length) (g : Nat → Option (ByteArray × Int × Bool))
  (hg : ∀ n,g (n + 1) = if (k : Int) = 0 then some (B [],0,false) else if (o : Int) > 0 then some (B [],0,false) else if 0 ≤ (k : Int) then (if (k : Int) ≤ ((B s).size : Int) then (incipitref05_Unescape.f n ((B s).extract 0 ((k : Int)).toNat)).bind fun t => some (t,(k : Int),true) else none) else none) :
  Ev g (B (dOut s k o false).1,((dOut s k o false).2.1 : Int),(dOut s k o false).2.2) := by
 by_cases h0 : k = 0
 ·have e : dOut s k o false = ([],0,false) := if_pos (.inl h0)
  rw [e]
  refine Ev.step (f := fun _ => some (B [],0,false)) (fun n => ?_) (Ev.now _)
  rw [hg,if_pos (by omega)]
 ·by_cases ho : 0 < o
  ·have e : dOut s k o false = ([],0,false) := if_pos (.inr (.inl ho))
   rw [e]
   refine Ev.step (f := fun _ => some (B [],0,false)) (fun n => ?_) (Ev.now _)
   rw [hg,if_neg (by omega),if_pos (by omega)]
  ·have e : dOut s k o false = (une (s.take k),k,true) := if_neg (by rintro (h | h | h);exact h0 h;exact ho h;cases h)
   rw [e]
   have hu := runesc_ev (s.take k) (by rw [List.length_take];omega)
   refine Ev.step (f := fun n => (incipitref05_Unescape.f n (B (s.take k))).bind _) (fun n => by rw [hg,if_neg (by omega),if_neg (by omega),if_pos (nn _),if_pos (szl hk),Int.toNat_natCast,B_to]) (Ev.bind hu (Ev.now _))
theorem rdst_l : ∀ (n : Nat) (r p : List UInt8) (P : List Bool) (o : Nat),r.length ≤ n → P.length = p.length → (p ++ r).length ≤ 2000 → mk (p ++ r) = P ++ mk r → o ≤ 32 →
  Ev (fun k => incipitref09_Dest.l0 k (B (p ++ r)) (mk (p ++ r)) (o : Int) (p.length : Int))
   (B (dOut (p ++ r) (p.length + (dstL r o false).1) (dstL r o false).2.1 (dstL r o false).2.2).1,((dOut (p ++ r) (p.length + (dstL r o false).1) (dstL r o false).2.1 (dstL r o false).2.2).2.1 : Int),(dOut (p ++ r) (p.length + (dstL r o false).1) (dstL r o false).2.1 (dstL r o false).2.2).2.2)
 | _,[],p,P,o,_,hP,hl,hM,ho => by
  have hj : Ev (fun k => incipitref09_Dest.j2 k (B (p ++ [])) (mk (p ++ [])) (o : Int) (p.length : Int) false) (B (dOut (p ++ []) p.length o false).1,((dOut (p ++ []) p.length o false).2.1 : Int),(dOut (p ++ []) p.length o false).2.2) := by
   refine rdst_end (p ++ []) hl p.length o (by simp) _ (fun n => ?_)
   simp only [incipitref09_Dest.j2]
   rw [if_neg (by decide)]
   rfl
  refine Ev.step (fun k => ?_) hj
  simp only [incipitref09_Dest.l0]
  rw [if_neg (by rw [B_size];simp)]
 | 0,x :: t,p,P,o,hn,_,_,_,_ => by simp at hn
 | n + 1,x :: t,p,P,o,hn,hP,hl,hM,ho => by
  simp only [List.length_cons] at hn
  have hl2 : p.length + t.length + 1 ≤ 2000 := by simp at hl;omega
  have hlt := lt_sz p t x
  have hltm : ((p.length : Nat) : Int) < ((mk (p ++ x :: t)).length : Int) := by rw [mk_len];simp;omega
  have hb := bt_mid p t x
  by_cases he : x = 92 ∧ ∃ y u,t = y :: u ∧ sgn y = true
  ·obtain ⟨h92,y,u,rfl,hs⟩ := he
   rw [List.length_cons] at hn hl2
   rw [mk_esc x y u h92 hs] at hM
   have ih := rdst_l n u (p ++ [x] ++ [y]) (P ++ [false,true]) o (by omega) (by simp [hP]) (by simp;omega) (by rw [← snoc,← snoc,hM];simp) ho
   rw [← snoc,← snoc,snoc_len,snoc_len] at ih
   rw [dst_esc x y u o false h92 hs]
   simp only
   rw [show p.length + ((dstL u o false).1 + 2) = p.length + 1 + 1 + (dstL u o false).1 by omega]
   obtain ⟨R,hR⟩ : ∃ R : ByteArray × Int × Bool,(B (dOut (p ++ x :: y :: u) (p.length + 1 + 1 + (dstL u o false).1) (dstL u o false).2.1 (dstL u o false).2.2).1,((dOut (p ++ x :: y :: u) (p.length + 1 + 1 + (dstL u o false).1) (dstL u o false).2.1 (dstL u o false).2.2).2.1 : Int),(dOut (p ++ x :: y :: u) (p.length + 1 + 1 + (dstL u o false).1) (dstL u o false).2.1 (dstL u o false).2.2).2.2) = R := ⟨_,rfl⟩
   rw [hR] at ih ⊢
   have hlt1 : (((p.length + 1 : Nat)) : Int) < ((B (p ++ x :: y :: u)).size : Int) := by rw [B_size];simp <;> omega
   have hltm1 : (((p.length + 1 : Nat)) : Int) < ((mk (p ++ x :: y :: u)).length : Int) := by rw [mk_len];simp;omega
   have hb1 : bt (B (p ++ x :: y :: u)) (((p.length + 1 : Nat)) : Int) = (y.toNat : Int) := by
    have := bt_mid (p ++ [x]) u y
    rw [← snoc,snoc_len] at this
    exact this
   have hr1 : rdOf false (mk (p ++ x :: y :: u)) (((p.length + 1 : Nat)) : Int) = true := by rw [hM,show P ++ false :: true :: mk u = (P ++ [false]) ++ true :: mk u by simp];exact rd_mid _ true _ _ (by simp [hP])
   obtain ⟨hy1,hy2⟩ := sgn_above y hs
   have c40 : ((y.toNat : Int) = 40) ↔ y = 40 := u8_eq _ 40 (by omega)
   have c41 : ((y.toNat : Int) = 41) ↔ y = 41 := u8_eq _ 41 (by omega)
   have c127 : ((y.toNat : Int) = 127) ↔ y = 127 := u8_eq _ 127 (by omega)
   have e5 : Ev (fun k => incipitref09_Dest.j5 k (B (p ++ x :: y :: u)) (mk (p ++ x :: y :: u)) (o : Int) (((p.length + 1 : Nat)) : Int) false) R := by
    refine Ev.step (fun k => ?_) ih
    simp only [incipitref09_Dest.j5]
    rw [if_neg (by decide),winc (by omega)]
   have e4 : Ev (fun k => incipitref09_Dest.j4 k (B (p ++ x :: y :: u)) (mk (p ++ x :: y :: u)) (o : Int) (((p.length + 1 : Nat)) : Int)) R := by
    refine Ev.step (fun k => ?_) e5
    simp only [incipitref09_Dest.j4]
    rw [if_pos (nn _),if_pos hlt1,hb1]
    by_cases h : y = 41
    ·rw [if_pos (c41.2 h),if_pos hltm1,hr1];rfl
    ·rw [if_neg (fun e => h (c41.1 e))]
   have e3 : Ev (fun k => incipitref09_Dest.j3 k (B (p ++ x :: y :: u)) (mk (p ++ x :: y :: u)) (o : Int) (((p.length + 1 : Nat)) : Int) false) R := by
    refine Ev.step (fun k => ?_) e4
    simp only [incipitref09_Dest.j3]
    rw [if_neg (by decide)]
   have e2 : Ev (fun k => incipitref09_Dest.j2 k (B (p ++ x :: y :: u)) (mk (p ++ x :: y :: u)) (o : Int) (((p.length + 1 : Nat)) : Int) true) R := by
    refine Ev.step (fun k => ?_) e3
    simp only [incipitref09_Dest.j2]
    rw [if_pos (by first | trivial | rfl),if_pos (nn _),if_pos hlt1,hb1]
    by_cases h : y = 40
    ·rw [if_pos (c40.2 h),if_pos hltm1,hr1];rfl
    ·rw [if_neg (fun e => h (c40.1 e))]
   have e1 : Ev (fun k => incipitref09_Dest.l0 k (B (p ++ x :: y :: u)) (mk (p ++ x :: y :: u)) (o : Int) (((p.length + 1 : Nat)) : Int)) R := by
    refine Ev.step (fun k => ?_) e2
    simp only [incipitref09_Dest.l0]
    rw [if_pos hlt1,if_pos (nn _),hb1,if_pos (by omega),show ((y.toNat : Int) != 127) = true by rw [bne,beq_eq_false_iff_ne.2 (fun e => hy2 (c127.1 e))];rfl]
   have f5 : Ev (fun k => incipitref09_Dest.j5 k (B (p ++ x :: y :: u)) (mk (p ++ x :: y :: u)) (o : Int) (p.length : Int) false) R := by
    refine Ev.step (fun k => ?_) e1
    simp only [incipitref09_Dest.j5]
    rw [if_neg (by decide),winc (by omega)]
   have f4 : Ev (fun k => incipitref09_Dest.j4 k (B (p ++ x :: y :: u)) (mk (p ++ x :: y :: u)) (o : Int) (p.length : Int)) R := by
    refine Ev.step (fun k => ?_) f5
    simp only [incipitref09_Dest.j4]
    rw [if_pos (nn _),if_pos hlt,hb,if_neg (by rw [h92];decide)]
   have f3 : Ev (fun k => incipitref09_Dest.j3 k (B (p ++ x :: y :: u)) (mk (p ++ x :: y :: u)) (o : Int) (p.length : Int) false) R := by
    refine Ev.step (fun k => ?_) f4
    simp only [incipitref09_Dest.j3]
    rw [if_neg (by decide)]
   have f2 : Ev (fun k => incipitref09_Dest.j2 k (B (p ++ x :: y :: u)) (mk (p ++ x :: y :: u)) (o : Int) (p.length : Int) true) R := by
    refine Ev.step (fun k => ?_) f3
    simp only [incipitref09_Dest.j2]
    rw [if_pos (by first | trivial | rfl),if_pos (nn _),if_pos hlt,hb,if_neg (by rw [h92];decide)]
   refine Ev.step (fun k => ?_) f2
   simp only [incipitref09_Dest.l0]
   rw [if_pos hlt,if_pos (nn _),hb,if_pos (by rw [h92];decide),show ((x.toNat : Int) != 127) = true by rw [h92];decide]
  ·have h3 : x = 92 → ∀ y u,t = y :: u → sgn y = false := by
    intro e y u e2
    cases hs : sgn y with
    | false => rfl
    | true => exact absurd ⟨e,y,u,e2,hs⟩ he
   rw [mk_one x t h3] at hM
   have hr0 : rdOf false (mk (p ++ x :: t)) (p.length : Int) = false := by rw [hM];exact rd_mid P false _ _ hP
   have c40 : ((x.toNat : Int) = 40) ↔ x = 40 := u8_eq _ 40 (by omega)
   have c41 : ((x.toNat : Int) = 41) ↔ x = 41 := u8_eq _ 41 (by omega)
   have c127 : ((x.toNat : Int) = 127) ↔ x = 127 := u8_eq _ 127 (by omega)
   rw [dst_one x t o false h3]
   by_cases hp : dstp o x = true
   ·rw [if_pos hp]
    simp only
    rw [Nat.add_zero]
    by_cases hlow : x.toNat ≤ 32 ∨ x = 127
    ·have hj : Ev (fun k => incipitref09_Dest.j2 k (B (p ++ x :: t)) (mk (p ++ x :: t)) (o : Int) (p.length : Int) false) (B (dOut (p ++ x :: t) p.length o false).1,((dOut (p ++ x :: t) p.length o false).2.1 : Int),(dOut (p ++ x :: t) p.length o false).2.2) := by
      refine rdst_end (p ++ x :: t) hl p.length o (by simp) _ (fun n => ?_)
      simp only [incipitref09_Dest.j2]
      rw [if_neg (by decide)]
      rfl
     refine Ev.step (fun k => ?_) hj
     simp only [incipitref09_Dest.l0]
     rw [if_pos hlt,if_pos (nn _),hb]
     by_cases h32 : x.toNat ≤ 32
     ·rw [if_neg (by omega)]
     ·rw [if_pos (by omega),show ((x.toNat : Int) != 127) = false by rw [bne,beq_iff_eq.2 (c127.2 (hlow.resolve_left h32))];rfl]
    ·rw [not_or] at hlow
     have h41 : x = 41 ∧ o = 0 := by
      unfold dstp at hp
      simp only [Bool.or_eq_true,Bool.and_eq_true,decide_eq_true_eq] at hp
      rcases hp with hp | hp | hp
      ·exact absurd hp hlow.1
      ·exact absurd hp hlow.2
      ·exact hp
     obtain ⟨h41,rfl⟩ := h41
     have hj : Ev (fun k => incipitref09_Dest.j5 k (B (p ++ x :: t)) (mk (p ++ x :: t)) ((0 : Nat) : Int) (p.length : Int) true) (B (dOut (p ++ x :: t) p.length 0 false).1,((dOut (p ++ x :: t) p.length 0 false).2.1 : Int),(dOut (p ++ x :: t) p.length 0 false).2.2) := by
      refine rdst_end (p ++ x :: t) hl p.length 0 (by simp) _ (fun n => ?_)
      simp only [incipitref09_Dest.j5]
      rw [if_pos (by first | trivial | rfl),if_pos (by rfl)]
      rfl
     have e4 : Ev (fun k => incipitref09_Dest.j4 k (B (p ++ x :: t)) (mk (p ++ x :: t)) ((0 : Nat) : Int) (p.length : Int)) (B (dOut (p ++ x :: t) p.length 0 false).1,((dOut (p ++ x :: t) p.length 0 false).2.1 : Int),(dOut (p ++ x :: t) p.length 0 false).2.2) := by
      refine Ev.step (fun k => ?_) hj
      simp only [incipitref09_Dest.j4]
      rw [if_pos (nn _),if_pos hlt,hb,if_pos (c41.2 h41),if_pos hltm,hr0]
      rfl
     have e3 : Ev (fun k => incipitref09_Dest.j3 k (B (p ++ x :: t)) (mk (p ++ x :: t)) ((0 : Nat) : Int) (p.length : Int) false) (B (dOut (p ++ x :: t) p.length 0 false).1,((dOut (p ++ x :: t) p.length 0 false).2.1 : Int),(dOut (p ++ x :: t) p.length 0 false).2.2) := by
      refine Ev.step (fun k => ?_) e4
      simp only [incipitref09_Dest.j3]
      rw [if_neg (by decide)]
     have e2 : Ev (fun k => incipitref09_Dest.j2 k (B (p ++ x :: t)) (mk (p ++ x :: t)) ((0 : Nat) : Int) (p.length : Int) true) (B (dOut (p ++ x :: t) p.length 0 false).1,((dOut (p ++ x :: t) p.length 0 false).2.1 : Int),(dOut (p ++ x :: t) p.length 0 false).2.2) := by
      refine Ev.step (fun k => ?_) e3
      simp only [incipitref09_Dest.j2]
      rw [if_pos (by first | trivial | rfl),if_pos (nn _),if_pos hlt,hb,if_neg (by rw [h41];decide)]
     refine Ev.step (fun k => ?_) e2
     simp only [incipitref09_Dest.l0]
     rw [if_pos hlt,if_pos (nn _),hb,if_pos (by rw [h41];decide),show ((x.toNat : Int) != 127) = true by rw [h41];decide]
   ·rw [if_neg hp]
    simp only
    rw [show p.length + ((dstL t (dsto o x) (dstd o false x)).1 + 1) = p.length + 1 + (dstL t (dsto o x) (dstd o false x)).1 by omega]
    obtain ⟨hx1,hx2⟩ := dstp_above o x hp
    have hn41 : x = 41 → o ≠ 0 := by
     intro e h0
     apply hp
     unfold dstp
     rw [decide_eq_true e,decide_eq_true h0]
     simp
    have ih := fun o' ho' => rdst_l n t (p ++ [x]) (P ++ [false]) o' (by omega) (by simp [hP]) (by simp;omega) (by rw [← snoc,hM];simp) ho'
    rw [← snoc,snoc_len] at ih
    have head : ∀ R : ByteArray × Int × Bool,Ev (fun k => incipitref09_Dest.j2 k (B (p ++ x :: t)) (mk (p ++ x :: t)) (o : Int) (p.length : Int) true) R → Ev (fun k => incipitref09_Dest.l0 k (B (p ++ x :: t)) (mk (p ++ x :: t)) (o : Int) (p.length : Int)) R := by
     intro R h
     refine Ev.step (fun k => ?_) h
     simp only [incipitref09_Dest.l0]
     rw [if_pos hlt,if_pos (nn _),hb,if_pos (by omega),show ((x.toNat : Int) != 127) = true by rw [bne,beq_eq_false_iff_ne.2 (fun e => hx2 (c127.1 e))];rfl]
    have tail5 : ∀ (o' : Nat) (R : ByteArray × Int × Bool),(x = 41 → False) → Ev (fun k => incipitref09_Dest.l0 k (B (p ++ x :: t)) (mk (p ++ x :: t)) (o' : Int) (((p.length + 1 : Nat)) : Int)) R → Ev (fun k => incipitref09_Dest.j4 k (B (p ++ x :: t)) (mk (p ++ x :: t)) (o' : Int) (p.length : Int)) R := by
     intro o' R hx h
     refine Ev.step (f := fun k => incipitref09_Dest.j5 k (B (p ++ x :: t)) (mk (p ++ x :: t)) (o' : Int) (p.length : Int) false) (fun k => ?_) (Ev.step (fun k => ?_) h)
     ·simp only [incipitref09_Dest.j4]
      rw [if_pos (nn _),if_pos hlt,hb,if_neg (fun e => hx (c41.1 e))]
     ·simp only [incipitref09_Dest.j5]
      rw [if_neg (by decide),winc (by omega)]
    by_cases h40 : x = 40
    ·have ho1 : dsto o x = o + 1 := by unfold dsto;rw [if_neg (by rw [h40];decide),if_pos h40]
     have hd1 : dstd o false x = decide (32 < o + 1) := by unfold dstd;rw [if_pos h40,Bool.false_or]
     rw [ho1,hd1]
     refine head _ (Ev.step (f := fun k => incipitref09_Dest.j3 k (B (p ++ x :: t)) (mk (p ++ x :: t)) (o : Int) (p.length : Int) true) (fun k => ?_) ?_)
     ·simp only [incipitref09_Dest.j2]
      rw [if_pos (by first | trivial | rfl),if_pos (nn _),if_pos hlt,hb,if_pos (c40.2 h40),if_pos hltm,hr0]
      rfl
     ·by_cases hbig : 32 < o + 1
      ·rw [decide_eq_true hbig]
       have e : dOut (p ++ x :: t) (p.length + 1 + (dstL t (o + 1) true).1) (dstL t (o + 1) true).2.1 (dstL t (o + 1) true).2.2 = ([],0,false) := if_pos (.inr (.inr (dstL_deep t.length t (o + 1) (Nat.le_refl _))))
       rw [e]
       refine Ev.step (f := fun _ => some (B [],0,false)) (fun k => ?_) (Ev.now _)
       simp only [incipitref09_Dest.j3]
       rw [if_pos (by first | trivial | rfl),winc (by omega),if_pos (by omega)]
       rfl
      ·rw [decide_eq_false hbig]
       refine Ev.step (fun k => ?_) (tail5 (o + 1) _ (fun e => by rw [h40] at e;cases e) (ih (o + 1) (by omega)))
       simp only [incipitref09_Dest.j3]
       rw [if_pos (by first | trivial | rfl),winc (by omega),if_neg (by omega)]
    ·have hd1 : dstd o false x = false := by unfold dstd;rw [if_neg h40]
     rw [hd1]
     have h2 : ∀ R : ByteArray × Int × Bool,Ev (fun k => incipitref09_Dest.j4 k (B (p ++ x :: t)) (mk (p ++ x :: t)) (o : Int) (p.length : Int)) R → Ev (fun k => incipitref09_Dest.j2 k (B (p ++ x :: t)) (mk (p ++ x :: t)) (o : Int) (p.length : Int) true) R := by
      intro R h
      refine Ev.step (f := fun k => incipitref09_Dest.j3 k (B (p ++ x :: t)) (mk (p ++ x :: t)) (o : Int) (p.length : Int) false) (fun k => ?_) (Ev.step (fun k => ?_) h)
      ·simp only [incipitref09_Dest.j2]
       rw [if_pos (by first | trivial | rfl),if_pos (nn _),if_pos hlt,hb,if_neg (fun e => h40 (c40.1 e))]
      ·simp only [incipitref09_Dest.j3]
       rw [if_neg (by decide)]
     by_cases h41 : x = 41
     ·have ho0 := hn41 h41
      have ho1 : dsto o x = o - 1 := by unfold dsto;rw [if_pos h41]
      rw [ho1]
      refine head _ (h2 _ (Ev.step (f := fun k => incipitref09_Dest.j5 k (B (p ++ x :: t)) (mk (p ++ x :: t)) (o : Int) (p.length : Int) true) (fun k => ?_) (Ev.step (fun k => ?_) (ih (o - 1) (by omega)))))
      ·simp only [incipitref09_Dest.j4]
       rw [if_pos (nn _),if_pos hlt,hb,if_pos (c41.2 h41),if_pos hltm,hr0]
       rfl
      ·simp only [incipitref09_Dest.j5]
       rw [if_pos (by first | trivial | rfl),if_neg (by omega),winc (by omega),show wrap64 ((o : Int) - 1) = ((o - 1 : Nat) : Int) by rw [w64 (by omega) (by omega)];omega]
     ·have ho1 : dsto o x = o := by unfold dsto;rw [if_neg h41,if_neg h40]
      rw [ho1]
      exact head _ (h2 _ (tail5 o _ h41 (ih o ho)))
theorem rdest_ev (s : List UInt8) (h : s.length ≤ 2000) : Ev (fun k => incipitref09_Dest.f k (B s)) (B (dst s).1,((dst s).2.1 : Int),(dst s).2.2) := by
 unfold incipitref09_Dest.f
 have hno : s.head? ≠ some 60 → Ev (fun k => incipitref09_Dest.j0 k (B s) false) (B (dst s).1,((dst s).2.1 : Int),(dst s).2.2) := by
  intro h60
  have hm := marks_ev s (by omega)
  have hl := rdst_l s.length s [] [] 0 (Nat.le_refl _) rfl h rfl (by omega)
  rw [List.nil_append,List.length_nil,Nat.zero_add] at hl
  have e : dst s = dOut s (dstL s 0 false).1 (dstL s 0 false).2.1 (dstL s 0 false).2.2 := if_neg h60
  rw [e]
  refine Ev.step (f := fun k => (incipitref09_marks.f k (B s)).bind _) (fun k => by simp only [incipitref09_Dest.j0];rw [if_neg (by decide)]) (Ev.bind hm ?_)
  exact hl
 cases s with
 | nil => exact Ev.congr (fun k => if_pos (by exact B_toList [])) (hno (by simp))
 | cons x t =>
  have c60 : ((x.toNat : Int) = 60) ↔ x = 60 := u8_eq _ 60 (by omega)
  have hb : bt (B (x :: t)) 0 = (x.toNat : Int) := B_bt (x :: t) 0 (by simp)
  refine Ev.congr (f := fun k => incipitref09_Dest.j0 k (B (x :: t)) ((x.toNat : Int) == 60)) (fun k => by rw [if_neg (by rw [B_toList];simp),if_pos (by rw [B_size];simp <;> omega),hb]) ?_
  by_cases h60 : x = 60
  ·rw [beq_iff_eq.2 (c60.2 h60)]
   subst h60
   have hm := marks_ev (60 :: t) (by omega)
   have hl := rang_l t.length t [] [] (Nat.le_refl _) rfl h (mk_one 60 t (fun e => absurd e (by decide))) (by simp)
   rw [List.nil_append,List.length_nil,Nat.zero_add] at hl
   have e : dst (60 :: t) = ang t := if_pos rfl
   rw [e]
   have ha : Ev (fun k => incipitref09_angled.f k (B (60 :: t))) (B (ang t).1,((ang t).2.1 : Int),(ang t).2.2) := by
    unfold incipitref09_angled.f
    exact Ev.bind hm hl
   refine Ev.step (f := fun k => (incipitref09_angled.f k (B (60 :: t))).bind _) (fun k => by simp only [incipitref09_Dest.j0];rw [if_pos (by first | trivial | rfl)]) (Ev.bind ha ?_)
   exact Ev.now _
  ·rw [beq_eq_false_iff_ne.2 (fun e => h60 (c60.1 e))]
   exact hno (by intro e;exact h60 (Option.some.inj e))
/-! #### Title -/
theorem rttl_l (q c : UInt8) (hc : ∀ r,cls (q :: r) = c) (h0 : c ≠ 0) (h40 : q = 40 ↔ c = 41) (hq : q ≠ 92) : ∀ (n : Nat) (r p : List UInt8) (P : List Bool),r.length ≤ n → P.length = p.length → (q :: (p ++ r)).length ≤ 2000 → mk (q :: (p ++ r)) = (false :: P) ++ mk r → eachL (pTit c) (p ++ r) = p.length + eachL (pTit c) r →
  Ev (fun k => incipitref09_Title.l0 k (B (q :: (p ++ r))) ((c.toNat : Nat) : Int) (mk (q :: (p ++ r))) (((p.length + 1 : Nat)) : Int)) (B (ttl (q :: (p ++ r))).1,((ttl (q :: (p ++ r))).2 : Int))
 | _,[],p,P,_,hP,hl,hM,hE => by
  have e : ttl (q :: (p ++ [])) = ([],0) := by rw [ttl_cons,hc,if_neg h0,hE];simp [eachL]
  rw [e]
  refine Ev.step (f := fun _ => some (B [],0)) (fun k => ?_) (Ev.now _)
  simp only [incipitref09_Title.l0]
  rw [if_neg (by rw [B_size];simp)]
  rfl
 | 0,x :: t,p,P,hn,hP,hl,hM,hE => by simp at hn
 | n + 1,x :: t,p,P,hn,hP,hl,hM,hE => by
  simp only [List.length_cons] at hn
  have hl2 : p.length + t.length + 2 ≤ 2000 := by simp at hl;omega
  have hlt : (((p.length + 1 : Nat)) : Int) < ((B (q :: (p ++ x :: t))).size : Int) := by rw [B_size];simp <;> omega
  have hltm : (((p.length + 1 : Nat)) : Int) < ((mk (q :: (p ++ x :: t))).length : Int) := by rw [mk_len];simp;omega
  have hb : bt (B (q :: (p ++ x :: t))) (((p.length + 1 : Nat)) : Int) = (x.toNat : Int) := bt_mid (q :: p) t x
  by_cases he : x = 92 ∧ ∃ y u,t = y :: u ∧ sgn y = true
  ·obtain ⟨h92,y,u,rfl,hs⟩ := he
   rw [List.length_cons] at hn hl2
   rw [mk_esc x y u h92 hs] at hM
   rw [each_esc (pTit c) x y u h92 hs] at hE
   have ih := rttl_l q c hc h0 h40 hq n u (p ++ [x] ++ [y]) (P ++ [false,true]) (by omega) (by simp [hP]) (by simp;omega) (by rw [← snoc,← snoc,hM];simp) (by rw [← snoc,← snoc,hE];simp;omega)
   rw [← snoc,← snoc,snoc_len,snoc_len] at ih
   have hr0 : rdOf false (mk (q :: (p ++ x :: y :: u))) (((p.length + 1 : Nat)) : Int) = false := by rw [hM];exact rd_mid (false :: P) false _ _ (by simp [hP])
   have hr1 : rdOf false (mk (q :: (p ++ x :: y :: u))) (((p.length + 1 + 1 : Nat)) : Int) = true := by rw [hM,show (false :: P) ++ false :: true :: mk u = (false :: P ++ [false]) ++ true :: mk u by simp];exact rd_mid _ true _ _ (by simp [hP])
   have hx92 : ¬ ((x.toNat : Int) = ((c.toNat : Nat) : Int)) := by
    intro e
    have : x = c := UInt8.toNat_inj.1 (by omega)
    have h9 := cls_ne (q :: [])
    rw [hc,← this] at h9
    exact h9 h92
   have b0 : bt (B (q :: (p ++ x :: y :: u))) 0 = (q.toNat : Int) := B_bt _ 0 (by simp)
   refine Ev.step (f := fun k => incipitref09_Title.l0 k (B (q :: (p ++ x :: y :: u))) ((c.toNat : Nat) : Int) (mk (q :: (p ++ x :: y :: u))) (((p.length + 1 + 1 : Nat)) : Int)) (fun k => ?_) (Ev.step (fun k => ?_) ih)
   ·simp only [incipitref09_Title.l0]
    rw [if_pos hlt,if_pos (nn _),if_pos hltm,hr0,if_neg (by decide),hb,if_neg hx92,if_pos (by rw [B_size];simp <;> omega),b0]
    have hx40 : ¬ ((x.toNat : Int) = 40) := by rw [h92];decide
    by_cases hq40 : (q.toNat : Int) = 40
    ·rw [if_pos hq40,if_neg hx40,winc (by omega)]
    ·rw [if_neg hq40,winc (by omega)]
   ·simp only [incipitref09_Title.l0]
    rw [if_pos (by rw [B_size];simp <;> omega),if_pos (nn _),if_pos (by rw [mk_len];simp;omega),hr1,if_pos (by first | trivial | rfl),winc (by omega)]
  ·have h3 : x = 92 → ∀ y u,t = y :: u → sgn y = false := by
    intro e y u e2
    cases hs : sgn y with
    | false => rfl
    | true => exact absurd ⟨e,y,u,e2,hs⟩ he
   rw [mk_one x t h3] at hM
   have hr0 : rdOf false (mk (q :: (p ++ x :: t))) (((p.length + 1 : Nat)) : Int) = false := by rw [hM];exact rd_mid (false :: P) false _ _ (by simp [hP])
   have b0 : bt (B (q :: (p ++ x :: t))) 0 = (q.toNat : Int) := B_bt _ 0 (by simp)
   have c40 : ((x.toNat : Int) = 40) ↔ x = 40 := u8_eq _ 40 (by omega)
   have d40 : ((q.toNat : Int) = 40) ↔ q = 40 := u8_eq _ 40 (by omega)
   have cc : ((x.toNat : Int) = ((c.toNat : Nat) : Int)) ↔ x = c := ⟨fun e => UInt8.toNat_inj.1 (by omega),fun e => by rw [e]⟩
   have hE1 := each_one (pTit c) x t h3
   by_cases hp : pTit c x = true
   ·rw [hE1,if_pos hp,Nat.add_zero] at hE
    have hl4 := ttl_at q p t x c hc h0 hE
    by_cases hxc : x = c
    ·rw [if_pos hxc] at hl4
     have hx : (B (q :: (p ++ x :: t))).extract 1 ((((p.length + 1 : Nat)) : Int)).toNat = B p := by
      rw [Int.toNat_natCast,B_extract,List.drop_succ_cons,List.drop_zero,Nat.add_sub_cancel,List.take_left' rfl]
     have hg := rgap_ev p (by omega)
     refine Ev.step (f := fun k => (incipitref09_gap.f k (B p)).bind _) (fun k => by
      simp only [incipitref09_Title.l0]
      rw [if_pos hlt,if_pos (nn _),if_pos hltm,hr0,if_neg (by decide),hb,if_pos (cc.2 hxc),if_pos (by omega),if_pos (by rw [B_size];simp <;> omega),hx]) (Ev.bind hg ?_)
     cases hgp : gp false p with
     | true =>
      rw [if_pos hgp] at hl4
      rw [hl4]
      exact Ev.congr (f := fun _ => some (B [],0)) (fun k => if_pos (by first | trivial | rfl)) (Ev.now _)
     | false =>
      rw [if_neg (by rw [hgp];decide)] at hl4
      rw [hl4]
      have hu := runesc_ev p (by omega)
      refine Ev.congr (f := fun k => (incipitref05_Unescape.f k (B p)).bind _) (fun k => by rw [if_neg (by decide)]) (Ev.bind hu ?_)
      refine Ev.congr (f := fun _ => some (B (une p),((p.length + 2 : Nat) : Int))) (fun k => ?_) (Ev.now _)
      rw [winc (by omega)]
    ·rw [if_neg hxc] at hl4
     have hx40 : x = 40 ∧ c = 41 := by
      unfold pTit at hp
      simp only [Bool.or_eq_true,Bool.and_eq_true,decide_eq_true_eq] at hp
      exact hp.resolve_left hxc
     rw [hl4]
     refine Ev.step (f := fun _ => some (B [],0)) (fun k => ?_) (Ev.now _)
     simp only [incipitref09_Title.l0]
     rw [if_pos hlt,if_pos (nn _),if_pos hltm,hr0,if_neg (by decide),hb,if_neg (fun e => hxc (cc.1 e)),if_pos (by rw [B_size];simp <;> omega),b0,if_pos (d40.2 (h40.2 hx40.2)),if_pos (c40.2 hx40.1)]
     rfl
   ·rw [hE1,if_neg hp] at hE
    have ih := rttl_l q c hc h0 h40 hq n t (p ++ [x]) (P ++ [false]) (by omega) (by simp [hP]) (by simp;omega) (by rw [← snoc,hM];simp) (by rw [← snoc,hE];simp;omega)
    rw [← snoc,snoc_len] at ih
    have hne : x ≠ c ∧ (x = 40 → c ≠ 41) := by
     unfold pTit at hp
     simp only [Bool.or_eq_true,Bool.and_eq_true,decide_eq_true_eq,not_or,not_and] at hp
     exact hp
    refine Ev.step (fun k => ?_) ih
    simp only [incipitref09_Title.l0]
    rw [if_pos hlt,if_pos (nn _),if_pos hltm,hr0,if_neg (by decide),hb,if_neg (fun e => hne.1 (cc.1 e)),if_pos (by rw [B_size];simp <;> omega),b0,winc (by omega)]
    by_cases hq40 : (q.toNat : Int) = 40
    ·rw [if_pos hq40,if_neg (fun e => hne.2 (c40.1 e) (h40.1 (d40.1 hq40)))]
    ·rw [if_neg hq40]
theorem rtitle_ev (s : List UInt8) (h : s.length ≤ 2000) : Ev (fun k => incipitref09_Title.f k (B s)) (B (ttl s).1,((ttl s).2 : Int)) := by
 unfold incipitref09_Title.f
 cases s with
 | nil =>
  refine Ev.congr (fun k => if_pos (by exact B_toList [])) ?_
  refine Ev.step (f := fun _ => some (B [],0)) (fun k => ?_) (Ev.now _)
  simp only [incipitref09_Title.j0]
  exact if_pos (by first | trivial | rfl)
 | cons q t =>
  have b0 : bt (B (q :: t)) 0 = (q.toNat : Int) := B_bt (q :: t) 0 (by simp)
  have c34 : ((q.toNat : Int) = 34) ↔ q = 34 := u8_eq _ 34 (by omega)
  have c39 : ((q.toNat : Int) = 39) ↔ q = 39 := u8_eq _ 39 (by omega)
  have c40 : ((q.toNat : Int) = 40) ↔ q = 40 := u8_eq _ 40 (by omega)
  have hyes : ∀ c : UInt8,(∀ r,cls (q :: r) = c) → c ≠ 0 → (q = 40 ↔ c = 41) → q ≠ 92 → ((q = 40 ∧ c = 41) ∨ (q ≠ 40 ∧ c = q)) → Ev (fun k => incipitref09_Title.j0 k (B (q :: t)) false) (B (ttl (q :: t)).1,((ttl (q :: t)).2 : Int)) := by
   intro c hc h0 h41 hq hcq
   have hm := marks_ev (q :: t) (by omega)
   have hl := rttl_l q c hc h0 h41 hq t.length t [] [] (Nat.le_refl _) rfl h (mk_one q t (fun e => absurd e hq)) (by simp)
   rw [List.nil_append,List.length_nil,Nat.zero_add] at hl
   refine Ev.step (f := fun k => incipitref09_Title.j1 k (B (q :: t)) ((c.toNat : Nat) : Int)) (fun k => ?_) (Ev.step (f := fun k => (incipitref09_marks.f k (B (q :: t))).bind _) (fun k => by simp only [incipitref09_Title.j1];rfl) (Ev.bind hm hl))
   simp only [incipitref09_Title.j0]
   rw [if_neg (by decide),if_pos (by rw [B_size];simp <;> omega),b0]
   rcases hcq with ⟨e1,e2⟩ | ⟨e1,e2⟩
   ·rw [if_pos (c40.2 e1),e2]
    rfl
   ·rw [if_neg (fun e => e1 (c40.1 e)),e2]
  have hcl := fun r => cls_cons q r
  by_cases h34 : q = 34
  ·refine Ev.congr (fun k => by rw [if_neg (by rw [B_toList];simp),if_pos (by rw [B_size];simp <;> omega),b0,if_pos (c34.2 h34)]) (hyes q (fun r => by rw [hcl,if_pos h34]) (by rw [h34];decide) (by rw [h34];decide) (by rw [h34];decide) (.inr ⟨by rw [h34];decide,rfl⟩))
  ·by_cases h39 : q = 39
   ·refine Ev.congr (fun k => by rw [if_neg (by rw [B_toList];simp),if_pos (by rw [B_size];simp <;> omega),b0,if_neg (fun e => h34 (c34.1 e)),if_pos (c39.2 h39)]) (hyes q (fun r => by rw [hcl,if_neg h34,if_pos h39]) (by rw [h39];decide) (by rw [h39];decide) (by rw [h39];decide) (.inr ⟨by rw [h39];decide,rfl⟩))
   ·by_cases h40 : q = 40
    ·refine Ev.congr (fun k => by rw [if_neg (by rw [B_toList];simp),if_pos (by rw [B_size];simp <;> omega),b0,if_neg (fun e => h34 (c34.1 e)),if_neg (fun e => h39 (c39.1 e)),show ((q.toNat : Int) != 40) = false by rw [bne,beq_iff_eq.2 (c40.2 h40)];rfl]) (hyes 41 (fun r => by rw [hcl,if_neg h34,if_neg h39,if_pos h40]) (by decide) (by rw [h40];decide) (by rw [h40];decide) (.inl ⟨h40,rfl⟩))
    ·have e : ttl (q :: t) = ([],0) := by rw [ttl_cons,hcl,if_neg h34,if_neg h39,if_neg h40,if_pos rfl]
     rw [e]
     refine Ev.congr (f := fun k => incipitref09_Title.j0 k (B (q :: t)) true) (fun k => by rw [if_neg (by rw [B_toList];simp),if_pos (by rw [B_size];simp <;> omega),b0,if_neg (fun e => h34 (c34.1 e)),if_neg (fun e => h39 (c39.1 e)),show ((q.toNat : Int) != 40) = true by rw [bne,beq_eq_false_iff_ne.2 (fun e => h40 (c40.1 e))];rfl]) ?_
     refine Ev.step (f := fun _ => some (B [],0)) (fun k => ?_) (Ev.now _)
     simp only [incipitref09_Title.j0]
     exact if_pos (by first | trivial | rfl)
end Go.Proofs.YtekifcbokdidlaaGreatDoor.Pure
