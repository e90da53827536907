/-
  Texts of the proof of RefsTakes, part 6 of 9: contracts and plain laws. Conditions: see each statement.
-/
import Derived.Test.YtekifcbokdidlaaGreatDoorSRefsTakes1
import Derived.Test.YtekifcbokdidlaaGreatDoorSRefsTakes5
import Derived.Test.YtekifcbokdidlaaGreatDoorSRefsTakes2
import Derived.Test.YtekifcbokdidlaaGreatDoorSRefsTakes3
import Derived.Test.YtekifcbokdidlaaGreatDoorSRefsTakes4
set_option linter.unusedVariables false
namespace Go.Proofs.YtekifcbokdidlaaGreatDoor.PA
open Go.RowKit Go.Proofs.YtekifcbokdidlaaGreatDoorW.PrintWords Go.Proofs.YtekifcbokdidlaaGreatDoorW.PrintLast Go.Proofs.YtekifcbokdidlaaGreatDoorW.PrintMore
attribute [local go_sem] max2_int min2_int max_two min_two max_three min_three max_four min_four   -- for this text's walks alone
set_option linter.unusedVariables false
set_option linter.unusedSimpArgs false

/-! ### incipitref09_White: function 56 -/
def incipitref09_White.l0 : Nat → ByteArray → Int → Option (Int)
  | 0,_,_ => none
  | k + 1,x0,x3 => if x3 < (x0.size : Int) then (if 0 ≤ x3 then ((incipitref09_white.f (bt x0 x3)).bind fun t267 => (if t267 = true then (incipitref09_White.l0 k x0 (wrap64 (x3 + 1))) else (some x3))) else (none)) else (some x3)
def incipitref09_White.f (k : Nat) (a0 : ByteArray) : Option (Int) := incipitref09_White.l0 k a0 0
set_option maxHeartbeats 8000000 in
set_option maxRecDepth 100000 in
theorem incipitref09_White.calls (k : Nat) (a0 : ByteArray) (r : Int) (w : World) (h : incipitref09_White.f k a0 = some r) :
  Calls Tryz.prog 56 #[.string a0] w fun e w' => e = .returned (.int .i64 r) ∧ Drawn0 w w' := by
 have H : (incipitref09_White.l0 k a0 0) = some r := h
 clear h
 have H' := Aside0.mk H
 clear H
 go_enter Tryz.func56,Tryz.ntmps56
 go_wp2
 go_loopg [3] k (fun kq v3 w' => ∃ (x3_1 : Int),v3 = .int .i64 x3_1 ∧ Aside0 (incipitref09_White.l0 kq a0 x3_1 = some r) ∧ Aside0 (kq ≤ k) ∧ Drawn0 w w')
 case atStart => exact ⟨(0),(by first | rfl | (simp;done) | (simp [*];done)),H',⟨Nat.le_refl _⟩,by repeat (first | exact Drawn0.refl _ | apply Drawn0.step)⟩
 case round =>
  clear H'
  obtain ⟨x3_1,rfl,HA,HK1,⟨m1,rfl⟩⟩ := hrel
  cases gk with
  | zero => exact absurd HA.out (by simp [incipitref09_White.l0])
  | succ k1 =>
   have H := HA.out
   clear HA
   simp only [incipitref09_White.l0] at H
   by_cases c2 : x3_1 < (a0.size : Int)
   ·rw [if_pos c2] at H
    have c2b0 : decide (x3_1 < (a0.size : Int)) = true := decide_eq_true c2
    clear c2
    by_cases c3 : 0 ≤ x3_1
    ·rw [if_pos c3] at H
     have c3b0 : decide (0 ≤ x3_1) = true := decide_eq_true c3
     clear c3
     replace H := Option.bind_eq_some_iff.mp H
     obtain ⟨t267,A50,H⟩ := H
     (try dsimp only at H)
     have A5 := Aside0.mk A50
     clear A50
     by_cases c6 : t267 = true
     ·subst c6
      have H1 : (incipitref09_White.l0 k1 a0 (wrap64 (x3_1 + 1))) = some r := by rw [if_pos rfl] at H;exact H
      clear H
      have H := H1
      clear H1
      have H' := Aside0.mk H
      clear H
      have p4 : 0 ≤ (x3_1 : Int) := of_decide_eq_true (by first | (with_reducible assumption) | assumption)
      have q4 : x3_1 < (a0.size : Int) := of_decide_eq_true (by first | (with_reducible assumption) | assumption)
      have hx4 := bt_at a0 x3_1
      replace p4 := eq_true p4
      replace q4 := eq_true q4
      go_wp2_with (first | (go_at_call 86;(with_reducible refine (incipitref09_white.calls (bt a0 x3_1) true _ A5.out).mono ?_);rintro e w' ⟨rfl,⟨nd,rfl⟩⟩))
      go_roundg k1
      case measure => have := HK1.out;omega
      case rel => exact ⟨(wrap64 (x3_1 + 1)),(by first | rfl | (simp;done) | (simp [*];done)),H',⟨by have := HK1.out;omega⟩,by repeat (first | exact Drawn0.refl _ | apply Drawn0.step)⟩
     ·replace c6 := Bool.eq_false_iff.mpr c6
      subst c6
      have H1 : (some x3_1) = some r := by rw [if_neg (show ¬ (false = true) by decide)] at H;exact H
      clear H
      have H := H1
      clear H1
      obtain rfl := Option.some.inj H
      have p4 : 0 ≤ (x3_1 : Int) := of_decide_eq_true (by first | (with_reducible assumption) | assumption)
      have q4 : x3_1 < (a0.size : Int) := of_decide_eq_true (by first | (with_reducible assumption) | assumption)
      have hx4 := bt_at a0 x3_1
      replace p4 := eq_true p4
      replace q4 := eq_true q4
      go_wp2_with (first | (go_at_call 86;(with_reducible refine (incipitref09_white.calls (bt a0 x3_1) false _ A5.out).mono ?_);rintro e w' ⟨rfl,⟨nd,rfl⟩⟩))
      go_ret
      exact ⟨by first | rfl | exact retNe _ | (simp;done) | (simp [*];done),by repeat (first | exact Drawn0.refl _ | apply Drawn0.step)⟩
    ·rw [if_neg c3] at H
     exact absurd H (by simp)
   ·rw [if_neg c2] at H
    have c2b0 : decide (x3_1 < (a0.size : Int)) = false := decide_eq_false c2
    clear c2
    obtain rfl := Option.some.inj H
    go_wp2
    go_ret
    exact ⟨by first | rfl | exact retNe _ | (simp;done) | (simp [*];done),by repeat (first | exact Drawn0.refl _ | apply Drawn0.step)⟩

/-! ### incipitref09_Label: function 32 -/
mutual
def incipitref09_Label.j0 : Nat → ByteArray → Bool → Option (ByteArray × Int)
 | 0,_,_ => none
 | k + 1,x0,x12 => if x12 = true then (some ((⟨#[]⟩ : ByteArray),0)) else ((incipitref09_marks.f k x0).bind fun t268 => (incipitref09_Label.l0 k x0 t268 1))
def incipitref09_Label.l0 : Nat → ByteArray → List Bool → Int → Option (ByteArray × Int)
 | 0,_,_,_ => none
 | k + 1,x0,x4,x5 => if x5 < (x0.size : Int) then (if 0 ≤ x5 then (if x5 < (x4.length : Int) then (if rdOf false x4 x5 = true then (incipitref09_Label.l0 k x0 x4 (wrap64 (x5 + 1))) else (if (bt x0 x5) = 91 then (some ((⟨#[]⟩ : ByteArray),0)) else (if (bt x0 x5) = 93 then (if x5 > 1000 then (some ((⟨#[]⟩ : ByteArray),0)) else (if 1 ≤ x5 then (if x5 ≤ (x0.size : Int) then ((incipitref09_White.f k (x0.extract 1 (x5 : Int).toNat)).bind fun t272 => (if t272 = (wrap64 (x5 - 1)) then (some ((⟨#[]⟩ : ByteArray),0)) else (some (x0.extract 1 (x5 : Int).toNat,wrap64 (x5 + 1))))) else (none)) else (none))) else (incipitref09_Label.l0 k x0 x4 (wrap64 (x5 + 1)))))) else (none)) else (none)) else (some ((⟨#[]⟩ : ByteArray),0))
end
def incipitref09_Label.f (k : Nat) (a0 : ByteArray) : Option (ByteArray × Int) := if a0.toList = ([] : List UInt8) then (incipitref09_Label.j0 k a0 true) else (if 0 < (a0.size : Int) then (incipitref09_Label.j0 k a0 ((bt a0 0) != 91)) else (none))
set_option maxHeartbeats 8000000 in
set_option maxRecDepth 100000 in
theorem incipitref09_Label.calls (k : Nat) (a0 : ByteArray) (r1 : ByteArray) (r2 : Int) (w : World) (h : incipitref09_Label.f k a0 = some (r1,r2)) :
  Calls Tryz.prog 32 #[.string a0] w fun e w' => e = .returned (.tuple #[.string r1,.int .i64 r2]) ∧ Below w.heap.size w w' := by
 have HB := Aside0.mk (Below.refl w.heap.size w)
 have H : (if a0.toList = ([] : List UInt8) then (incipitref09_Label.j0 k a0 true) else (if 0 < (a0.size : Int) then (incipitref09_Label.j0 k a0 ((bt a0 0) != 91)) else (none))) = some (r1,r2) := h
 clear h
 have HC2 := Aside0.mk H
 clear H
 go_enter Tryz.func32,Tryz.ntmps32
 go_upto_region 1 with (fail)
 go_cut [12] (fun v12 wc => ∃ (kq : Nat) (x12_1 : Bool),v12 = .bool x12_1 ∧ Aside0 (incipitref09_Label.j0 kq a0 x12_1 = some (r1,r2)) ∧ Aside0 (kq ≤ k) ∧ Aside0 (Below w.heap.size w wc))
 case first =>
  have H := HC2.out
  clear HC2
  by_cases c3 : a0.toList = ([] : List UInt8)
  ·rw [if_pos c3] at H
   have c3b0 : (a0.toList == ([] : List UInt8)) = true := beq_iff_eq.mpr c3
   have c3b1 : (a0.toList != ([] : List UInt8)) = false := bne_eq_false_iff_eq.mpr c3
   clear c3
   (first | rw [c3b0] | (simp only [i64_w,i32_w];rw [c3b0]) | skip)
   have H' := Aside0.mk H
   clear H
   go_wp2
   go_meet
   case rel => exact ⟨_,(true),(by first | rfl | (simp;done) | (simp [*];done)),H',⟨by first | omega | exact Nat.le_refl _⟩,⟨by repeat (first | (with_reducible first | exact HB.out | apply below_alloc | apply pw_below_drewN | apply below_drew1) | exact HB.out)⟩⟩
  ·rw [if_neg c3] at H
   have c3b0 : (a0.toList == ([] : List UInt8)) = false := beq_eq_false_iff_ne.mpr c3
   have c3b1 : (a0.toList != ([] : List UInt8)) = true := bne_iff_ne.mpr c3
   (first | rw [c3b0] | (simp only [i64_w,i32_w];rw [c3b0]) | skip)
   by_cases c4 : 0 < (a0.size : Int)
   ·rw [if_pos c4] at H
    have c4b0 : decide (0 < (a0.size : Int)) = true := decide_eq_true c4
    have c4b1 : decide (0 < a0.size) = true := decide_eq_true (by omega)
    clear c4
    have H' := Aside0.mk H
    clear H
    have p5 : 0 ≤ (0 : Int) := (by omega)
    have q5 : 0 < a0.size := (by have : (0 : Int) < (a0.size : Int) := of_decide_eq_true (by first | (with_reducible assumption) | assumption);omega)
    have hx5 : ∀ h : 0 < a0.size,((a0[0]'h).toNat : Int) = bt a0 0 := bt_at a0 0
    clear p5
    have qi5 : (0 < (a0.size : Int)) = True := eq_true (of_decide_eq_true (by first | (with_reducible assumption) | assumption))
    replace q5 := eq_true q5
    go_wp2
    go_meet
    case rel => exact ⟨_,(((bt a0 0) != 91)),(by first | rfl | (simp;done) | (simp [*];done)),H',⟨by first | omega | exact Nat.le_refl _⟩,⟨by repeat (first | (with_reducible first | exact HB.out | apply below_alloc | apply pw_below_drewN | apply below_drew1) | exact HB.out)⟩⟩
   ·rw [if_neg c4] at H
    exact absurd H (by simp)
 case rest =>
  clear HC2
  try clear p2
  try clear c3
  try clear c3b0
  try clear c3b1
  try clear c4
  try clear c4b0
  try clear c4b1
  try clear p5
  try clear q5
  try clear hx5
  try clear qi5
  try clear p5
  try clear q5
  obtain ⟨kq,x12_1,rfl,HA,HJ1,HB⟩ := hcut
  cases kq with
  | zero => exact absurd HA.out (by simp [incipitref09_Label.j0])
  | succ kj1 =>
   have H := HA.out
   clear HA
   simp only [incipitref09_Label.j0] at H
   by_cases c6 : x12_1 = true
   ·subst c6
    have H1 : (some ((⟨#[]⟩ : ByteArray),0)) = some (r1,r2) := by rw [if_pos rfl] at H;exact H
    clear H
    have H := H1
    clear H1
    simp only [Option.some.injEq,Prod.mk.injEq] at H
    obtain ⟨rfl,rfl⟩ := H
    go_wp2
    go_ret2
    exact ⟨by first | rfl | exact retNe _ | (simp [errW_none,errW_some] <;> rfl) | (simp [*,errW_none,errW_some] <;> rfl),by repeat (first | (with_reducible first | exact HB.out | apply below_alloc | apply pw_below_drewN | apply below_drew1) | exact HB.out)⟩
   ·replace c6 := Bool.eq_false_iff.mpr c6
    subst c6
    have H1 : ((incipitref09_marks.f kj1 a0).bind fun t268 => (incipitref09_Label.l0 kj1 a0 t268 1)) = some (r1,r2) := by rw [if_neg (show ¬ (false = true) by decide)] at H;exact H
    clear H
    have H := H1
    clear H1
    replace H := Option.bind_eq_some_iff.mp H
    obtain ⟨t268,A70,H⟩ := H
    (try dsimp only at H)
    have A7 := Aside0.mk A70
    clear A70
    have H' := Aside0.mk H
    clear H
    go_wp2_with (first | ((with_reducible refine gate_callee (f := 55) rfl ?_);refine goesL_ (some 14) rfl rfl Tryz.func55 (by kernel_rfl) rfl #[.string a0] rfl (by (try simp only [List.map_toArray,List.map_cons,List.map_nil]);try rfl) ?_;(with_reducible refine (incipitref09_marks.calls kj1 a0 t268 _ A7.out).mono ?_);rintro e w8 ⟨v269,rfl,ho0,hb⟩;refine ⟨_,rfl,?_⟩;have n0_ := Aside0.mk (Kd.R_lower ho0 (below_size HB.out));have n1_ := Aside0.mk (below_step HB.out hb);clear HB;have HO270 := n0_;have HB := n1_;clear n0_ n1_;(try clear ho0)))
    go_loopg [5] kj1 (fun kq v5 w' => ∃ (x5_2 : Int),v5 = .int .i64 x5_2 ∧ Aside0 (incipitref09_Label.l0 kq a0 t268 x5_2 = some (r1,r2)) ∧ Aside0 (kq ≤ kj1) ∧ Aside0 (Kd.R Kd.bool 4 w' w.heap.size (fun _ => True) v269 t268) ∧ Aside0 (Below w.heap.size w w'))
    case atStart => exact ⟨(1),(by first | rfl | (simp;done) | (simp [*];done)),H',⟨Nat.le_refl _⟩,⟨by (with_reducible repeat (first | apply Kd.R_alloc | apply Kd.R_drewN | apply Kd.R_drew));exact HO270.out⟩,⟨by repeat (first | (with_reducible first | exact HB.out | apply below_alloc | apply pw_below_drewN | apply below_drew1) | exact HB.out)⟩⟩
    case round =>
     clear H'
     try clear p2
     try clear c3
     try clear c3b0
     try clear c3b1
     try clear c4
     try clear c4b0
     try clear c4b1
     try clear c5
     try clear p5
     try clear q5
     try clear hx5
     try clear qi5
     try clear c6
     try clear p2
     try clear p5
     try clear q5
     obtain ⟨x5_2,rfl,HA,HK2,HO_4,HB⟩ := hrel
     cases gk with
     | zero => exact absurd HA.out (by simp [incipitref09_Label.l0])
     | succ k2 =>
      have H := HA.out
      clear HA
      simp only [incipitref09_Label.l0] at H
      by_cases c9 : x5_2 < (a0.size : Int)
      ·rw [if_pos c9] at H
       have c9b0 : decide (x5_2 < (a0.size : Int)) = true := decide_eq_true c9
       clear c9
       by_cases c10 : 0 ≤ x5_2
       ·rw [if_pos c10] at H
        have c10b0 : decide (0 ≤ x5_2) = true := decide_eq_true c10
        clear c10
        by_cases c11 : x5_2 < (t268.length : Int)
        ·rw [if_pos c11] at H
         have c11b0 : decide (x5_2 < (t268.length : Int)) = true := decide_eq_true c11
         clear c11
         obtain ⟨bq12,hbq12⟩ : ∃ b_ : Bool,b_ = (rdOf false t268 x5_2) := ⟨_,rfl⟩
         replace H : (if bq12 = true then (incipitref09_Label.l0 k2 a0 t268 (wrap64 (x5_2 + 1))) else (if (bt a0 x5_2) = 91 then (some ((⟨#[]⟩ : ByteArray),0)) else (if (bt a0 x5_2) = 93 then (if x5_2 > 1000 then (some ((⟨#[]⟩ : ByteArray),0)) else (if 1 ≤ x5_2 then (if x5_2 ≤ (a0.size : Int) then ((incipitref09_White.f k2 (a0.extract 1 (x5_2 : Int).toNat)).bind fun t272 => (if t272 = (wrap64 (x5_2 - 1)) then (some ((⟨#[]⟩ : ByteArray),0)) else (some (a0.extract 1 (x5_2 : Int).toNat,wrap64 (x5_2 + 1))))) else (none)) else (none))) else (incipitref09_Label.l0 k2 a0 t268 (wrap64 (x5_2 + 1)))))) = some (r1,r2) := by rw [← hbq12] at H;exact H
         have Nbq12 := Aside0.mk hbq12
         clear hbq12
         by_cases c13 : bq12 = true
         ·subst c13
          have H1 : (incipitref09_Label.l0 k2 a0 t268 (wrap64 (x5_2 + 1))) = some (r1,r2) := by rw [if_pos rfl] at H;exact H
          clear H
          have H := H1
          clear H1
          have H' := Aside0.mk H
          clear H
          obtain ⟨Ao14,co14,eo14⟩ := Kd.R_slice HO_4.out
          subst eo14
          have p271 : 0 ≤ (x5_2 : Int) := of_decide_eq_true (by first | (with_reducible assumption) | assumption)
          have q271 : x5_2 < (t268.length : Int) := of_decide_eq_true (by first | (with_reducible assumption) | assumption)
          obtain ⟨ad271,e271,hx271_0⟩ := Kd.at_bool (Kd.R_reads' HO_4.out).2.2 x5_2 p271 q271
          (try rw [← Nbq12.out] at hx271_0)
          cases e271
          replace p271 := eq_true p271
          replace q271 := eq_true q271
          go_wp2
          go_roundg k2
          case measure => have := HJ1.out;have := HK2.out;omega
          case rel => exact ⟨(wrap64 (x5_2 + 1)),(by first | rfl | (simp;done) | (simp [*];done)),H',⟨by have := HJ1.out;have := HK2.out;omega⟩,⟨by (with_reducible repeat (first | apply Kd.R_alloc | apply Kd.R_drewN | apply Kd.R_drew));exact HO_4.out⟩,⟨by repeat (first | (with_reducible first | exact HB.out | apply below_alloc | apply pw_below_drewN | apply below_drew1) | exact HB.out)⟩⟩
         ·replace c13 := Bool.eq_false_iff.mpr c13
          subst c13
          have H1 : (if (bt a0 x5_2) = 91 then (some ((⟨#[]⟩ : ByteArray),0)) else (if (bt a0 x5_2) = 93 then (if x5_2 > 1000 then (some ((⟨#[]⟩ : ByteArray),0)) else (if 1 ≤ x5_2 then (if x5_2 ≤ (a0.size : Int) then ((incipitref09_White.f k2 (a0.extract 1 (x5_2 : Int).toNat)).bind fun t272 => (if t272 = (wrap64 (x5_2 - 1)) then (some ((⟨#[]⟩ : ByteArray),0)) else (some (a0.extract 1 (x5_2 : Int).toNat,wrap64 (x5_2 + 1))))) else (none)) else (none))) else (incipitref09_Label.l0 k2 a0 t268 (wrap64 (x5_2 + 1))))) = some (r1,r2) := by rw [if_neg (show ¬ (false = true) by decide)] at H;exact H
          clear H
          have H := H1
          clear H1
          by_cases c16 : (bt a0 x5_2) = 91
          ·rw [if_pos c16] at H
           have c16b0 : ((bt a0 x5_2) == 91) = true := beq_iff_eq.mpr c16
           have c16b1 : ((bt a0 x5_2) != 91) = false := bne_eq_false_iff_eq.mpr c16
           clear c16
           simp only [Option.some.injEq,Prod.mk.injEq] at H
           obtain ⟨rfl,rfl⟩ := H
           obtain ⟨Ao17,co17,eo17⟩ := Kd.R_slice HO_4.out
           subst eo17
           have p271 : 0 ≤ (x5_2 : Int) := of_decide_eq_true (by first | (with_reducible assumption) | assumption)
           have q271 : x5_2 < (t268.length : Int) := of_decide_eq_true (by first | (with_reducible assumption) | assumption)
           obtain ⟨ad271,e271,hx271_0⟩ := Kd.at_bool (Kd.R_reads' HO_4.out).2.2 x5_2 p271 q271
           (try rw [← Nbq12.out] at hx271_0)
           cases e271
           replace p271 := eq_true p271
           replace q271 := eq_true q271
           have p15 : 0 ≤ (x5_2 : Int) := of_decide_eq_true (by first | (with_reducible assumption) | assumption)
           have q15 : x5_2 < (a0.size : Int) := of_decide_eq_true (by first | (with_reducible assumption) | assumption)
           have hx15 := bt_at a0 x5_2
           replace p15 := eq_true p15
           replace q15 := eq_true q15
           go_wp2
           go_ret2
           exact ⟨by first | rfl | exact retNe _ | (simp [errW_none,errW_some] <;> rfl) | (simp [*,errW_none,errW_some] <;> rfl),by repeat (first | (with_reducible first | exact HB.out | apply below_alloc | apply pw_below_drewN | apply below_drew1) | exact HB.out)⟩
          ·rw [if_neg c16] at H
           have c16b0 : ((bt a0 x5_2) == 91) = false := beq_eq_false_iff_ne.mpr c16
           have c16b1 : ((bt a0 x5_2) != 91) = true := bne_iff_ne.mpr c16
           by_cases c19 : (bt a0 x5_2) = 93
           ·rw [if_pos c19] at H
            have c19b0 : ((bt a0 x5_2) == 93) = true := beq_iff_eq.mpr c19
            have c19b1 : ((bt a0 x5_2) != 93) = false := bne_eq_false_iff_eq.mpr c19
            clear c19
            by_cases c20 : x5_2 > 1000
            ·rw [if_pos c20] at H
             have c20b0 : decide (1000 < x5_2) = true := decide_eq_true c20
             clear c20
             simp only [Option.some.injEq,Prod.mk.injEq] at H
             obtain ⟨rfl,rfl⟩ := H
             obtain ⟨Ao21,co21,eo21⟩ := Kd.R_slice HO_4.out
             subst eo21
             have p271 : 0 ≤ (x5_2 : Int) := of_decide_eq_true (by first | (with_reducible assumption) | assumption)
             have q271 : x5_2 < (t268.length : Int) := of_decide_eq_true (by first | (with_reducible assumption) | assumption)
             obtain ⟨ad271,e271,hx271_0⟩ := Kd.at_bool (Kd.R_reads' HO_4.out).2.2 x5_2 p271 q271
             (try rw [← Nbq12.out] at hx271_0)
             cases e271
             replace p271 := eq_true p271
             replace q271 := eq_true q271
             have p15 : 0 ≤ (x5_2 : Int) := of_decide_eq_true (by first | (with_reducible assumption) | assumption)
             have q15 : x5_2 < (a0.size : Int) := of_decide_eq_true (by first | (with_reducible assumption) | assumption)
             have hx15 := bt_at a0 x5_2
             replace p15 := eq_true p15
             replace q15 := eq_true q15
             have p18 : 0 ≤ (x5_2 : Int) := of_decide_eq_true (by first | (with_reducible assumption) | assumption)
             have q18 : x5_2 < (a0.size : Int) := of_decide_eq_true (by first | (with_reducible assumption) | assumption)
             have hx18 := bt_at a0 x5_2
             replace p18 := eq_true p18
             replace q18 := eq_true q18
             go_wp2
             go_ret2
             exact ⟨by first | rfl | exact retNe _ | (simp [errW_none,errW_some] <;> rfl) | (simp [*,errW_none,errW_some] <;> rfl),by repeat (first | (with_reducible first | exact HB.out | apply below_alloc | apply pw_below_drewN | apply below_drew1) | exact HB.out)⟩
            ·rw [if_neg c20] at H
             have c20b0 : decide (1000 < x5_2) = false := decide_eq_false c20
             clear c20
             by_cases c22 : 1 ≤ x5_2
             ·rw [if_pos c22] at H
              have c22b0 := eq_true c22
              have c22b1 : decide (1 ≤ x5_2) = true := decide_eq_true c22
              clear c22
              by_cases c23 : x5_2 ≤ (a0.size : Int)
              ·rw [if_pos c23] at H
               have c23b0 := eq_true c23
               have c23b1 : decide (x5_2 ≤ (a0.size : Int)) = true := decide_eq_true c23
               clear c23
               replace H := Option.bind_eq_some_iff.mp H
               obtain ⟨t272,A240,H⟩ := H
               (try dsimp only at H)
               have A24 := Aside0.mk A240
               clear A240
               by_cases c25 : t272 = (wrap64 (x5_2 - 1))
               ·rw [if_pos c25] at H
                have c25b0 : (t272 == (wrap64 (x5_2 - 1))) = true := beq_iff_eq.mpr c25
                have c25b1 : (t272 != (wrap64 (x5_2 - 1))) = false := bne_eq_false_iff_eq.mpr c25
                clear c25
                simp only [Option.some.injEq,Prod.mk.injEq] at H
                obtain ⟨rfl,rfl⟩ := H
                obtain ⟨Ao26,co26,eo26⟩ := Kd.R_slice HO_4.out
                subst eo26
                have p271 : 0 ≤ (x5_2 : Int) := of_decide_eq_true (by first | (with_reducible assumption) | assumption)
                have q271 : x5_2 < (t268.length : Int) := of_decide_eq_true (by first | (with_reducible assumption) | assumption)
                obtain ⟨ad271,e271,hx271_0⟩ := Kd.at_bool (Kd.R_reads' HO_4.out).2.2 x5_2 p271 q271
                (try rw [← Nbq12.out] at hx271_0)
                cases e271
                replace p271 := eq_true p271
                replace q271 := eq_true q271
                have p15 : 0 ≤ (x5_2 : Int) := of_decide_eq_true (by first | (with_reducible assumption) | assumption)
                have q15 : x5_2 < (a0.size : Int) := of_decide_eq_true (by first | (with_reducible assumption) | assumption)
                have hx15 := bt_at a0 x5_2
                replace p15 := eq_true p15
                replace q15 := eq_true q15
                have p18 : 0 ≤ (x5_2 : Int) := of_decide_eq_true (by first | (with_reducible assumption) | assumption)
                have q18 : x5_2 < (a0.size : Int) := of_decide_eq_true (by first | (with_reducible assumption) | assumption)
                have hx18 := bt_at a0 x5_2
                replace p18 := eq_true p18
                replace q18 := eq_true q18
                go_wp2_with (first | (go_at_call 56;(with_reducible refine (incipitref09_White.calls k2 (a0.extract 1 (x5_2 : Int).toNat) t272 _ A24.out).mono ?_);rintro e w' ⟨rfl,⟨nd,rfl⟩⟩))
                go_ret2
                exact ⟨by first | rfl | exact retNe _ | (simp [errW_none,errW_some] <;> rfl) | (simp [*,errW_none,errW_some] <;> rfl),by repeat (first | (with_reducible first | exact HB.out | apply below_alloc | apply pw_below_drewN | apply below_drew1) | exact HB.out)⟩
               ·rw [if_neg c25] at H
                have c25b0 : (t272 == (wrap64 (x5_2 - 1))) = false := beq_eq_false_iff_ne.mpr c25
                have c25b1 : (t272 != (wrap64 (x5_2 - 1))) = true := bne_iff_ne.mpr c25
                have c27b0 := eq_true (of_decide_eq_true (by first | (with_reducible assumption) | assumption) : 1 ≤ x5_2)
                have c28b0 := eq_true (of_decide_eq_true (by first | (with_reducible assumption) | assumption) : x5_2 ≤ (a0.size : Int))
                simp only [Option.some.injEq,Prod.mk.injEq] at H
                obtain ⟨rfl,rfl⟩ := H
                obtain ⟨Ao29,co29,eo29⟩ := Kd.R_slice HO_4.out
                subst eo29
                have p271 : 0 ≤ (x5_2 : Int) := of_decide_eq_true (by first | (with_reducible assumption) | assumption)
                have q271 : x5_2 < (t268.length : Int) := of_decide_eq_true (by first | (with_reducible assumption) | assumption)
                obtain ⟨ad271,e271,hx271_0⟩ := Kd.at_bool (Kd.R_reads' HO_4.out).2.2 x5_2 p271 q271
                (try rw [← Nbq12.out] at hx271_0)
                cases e271
                replace p271 := eq_true p271
                replace q271 := eq_true q271
                have p15 : 0 ≤ (x5_2 : Int) := of_decide_eq_true (by first | (with_reducible assumption) | assumption)
                have q15 : x5_2 < (a0.size : Int) := of_decide_eq_true (by first | (with_reducible assumption) | assumption)
                have hx15 := bt_at a0 x5_2
                replace p15 := eq_true p15
                replace q15 := eq_true q15
                have p18 : 0 ≤ (x5_2 : Int) := of_decide_eq_true (by first | (with_reducible assumption) | assumption)
                have q18 : x5_2 < (a0.size : Int) := of_decide_eq_true (by first | (with_reducible assumption) | assumption)
                have hx18 := bt_at a0 x5_2
                replace p18 := eq_true p18
                replace q18 := eq_true q18
                go_wp2_with (first | (go_at_call 56;(with_reducible refine (incipitref09_White.calls k2 (a0.extract 1 (x5_2 : Int).toNat) t272 _ A24.out).mono ?_);rintro e w' ⟨rfl,⟨nd,rfl⟩⟩))
                go_ret2
                exact ⟨by first | rfl | exact retNe _ | (simp [errW_none,errW_some] <;> rfl) | (simp [*,errW_none,errW_some] <;> rfl),by repeat (first | (with_reducible first | exact HB.out | apply below_alloc | apply pw_below_drewN | apply below_drew1) | exact HB.out)⟩
              ·rw [if_neg c23] at H
               exact absurd H (by simp)
             ·rw [if_neg c22] at H
              exact absurd H (by simp)
           ·rw [if_neg c19] at H
            have c19b0 : ((bt a0 x5_2) == 93) = false := beq_eq_false_iff_ne.mpr c19
            have c19b1 : ((bt a0 x5_2) != 93) = true := bne_iff_ne.mpr c19
            have H' := Aside0.mk H
            clear H
            obtain ⟨Ao30,co30,eo30⟩ := Kd.R_slice HO_4.out
            subst eo30
            have p271 : 0 ≤ (x5_2 : Int) := of_decide_eq_true (by first | (with_reducible assumption) | assumption)
            have q271 : x5_2 < (t268.length : Int) := of_decide_eq_true (by first | (with_reducible assumption) | assumption)
            obtain ⟨ad271,e271,hx271_0⟩ := Kd.at_bool (Kd.R_reads' HO_4.out).2.2 x5_2 p271 q271
            (try rw [← Nbq12.out] at hx271_0)
            cases e271
            replace p271 := eq_true p271
            replace q271 := eq_true q271
            have p15 : 0 ≤ (x5_2 : Int) := of_decide_eq_true (by first | (with_reducible assumption) | assumption)
            have q15 : x5_2 < (a0.size : Int) := of_decide_eq_true (by first | (with_reducible assumption) | assumption)
            have hx15 := bt_at a0 x5_2
            replace p15 := eq_true p15
            replace q15 := eq_true q15
            have p18 : 0 ≤ (x5_2 : Int) := of_decide_eq_true (by first | (with_reducible assumption) | assumption)
            have q18 : x5_2 < (a0.size : Int) := of_decide_eq_true (by first | (with_reducible assumption) | assumption)
            have hx18 := bt_at a0 x5_2
            replace p18 := eq_true p18
            replace q18 := eq_true q18
            go_wp2
            go_roundg k2
            case measure => have := HJ1.out;have := HK2.out;omega
            case rel => exact ⟨(wrap64 (x5_2 + 1)),(by first | rfl | (simp;done) | (simp [*];done)),H',⟨by have := HJ1.out;have := HK2.out;omega⟩,⟨by (with_reducible repeat (first | apply Kd.R_alloc | apply Kd.R_drewN | apply Kd.R_drew));exact HO_4.out⟩,⟨by repeat (first | (with_reducible first | exact HB.out | apply below_alloc | apply pw_below_drewN | apply below_drew1) | exact HB.out)⟩⟩
        ·rw [if_neg c11] at H
         exact absurd H (by simp)
       ·rw [if_neg c10] at H
        exact absurd H (by simp)
      ·rw [if_neg c9] at H
       have c9b0 : decide (x5_2 < (a0.size : Int)) = false := decide_eq_false c9
       clear c9
       simp only [Option.some.injEq,Prod.mk.injEq] at H
       obtain ⟨rfl,rfl⟩ := H
       go_wp2
       go_ret2
       exact ⟨by first | rfl | exact retNe _ | (simp [errW_none,errW_some] <;> rfl) | (simp [*,errW_none,errW_some] <;> rfl),by repeat (first | (with_reducible first | exact HB.out | apply below_alloc | apply pw_below_drewN | apply below_drew1) | exact HB.out)⟩

/-! ### incipitref10_lf: function 57 -/
def incipitref10_lf.l0 : Nat → ByteArray → Int → Int → Option (Int)
  | 0,_,_,_ => none
  | k + 1,x0,x3,x4 => if x4 < (x0.size : Int) then (if 0 ≤ x4 then (if (bt x0 x4) = 10 then (incipitref10_lf.l0 k x0 (wrap64 (x3 + 1)) (wrap64 (x4 + 1))) else (incipitref10_lf.l0 k x0 x3 (wrap64 (x4 + 1)))) else (none)) else (some x3)
def incipitref10_lf.f (k : Nat) (a0 : ByteArray) : Option (Int) := incipitref10_lf.l0 k a0 0 0
set_option maxHeartbeats 8000000 in
set_option maxRecDepth 100000 in
theorem incipitref10_lf.calls (k : Nat) (a0 : ByteArray) (r : Int) (w : World) (h : incipitref10_lf.f k a0 = some r) :
  Calls Tryz.prog 57 #[.string a0] w fun e w' => e = .returned (.int .i64 r) ∧ Drawn0 w w' := by
 have H : (incipitref10_lf.l0 k a0 0 0) = some r := h
 clear h
 have H' := Aside0.mk H
 clear H
 go_enter Tryz.func57,Tryz.ntmps57
 go_wp2
 go_loopg [3,4] k (fun kq v3 v4 w' => ∃ (x3_1 : Int) (x4_1 : Int),v3 = .int .i64 x3_1 ∧ v4 = .int .i64 x4_1 ∧ Aside0 (incipitref10_lf.l0 kq a0 x3_1 x4_1 = some r) ∧ Aside0 (kq ≤ k) ∧ Drawn0 w w')
 case atStart => exact ⟨(0),(0),(by first | rfl | (simp;done) | (simp [*];done)),(by first | rfl | (simp;done) | (simp [*];done)),H',⟨Nat.le_refl _⟩,by repeat (first | exact Drawn0.refl _ | apply Drawn0.step)⟩
 case round =>
  clear H'
  obtain ⟨x3_1,x4_1,rfl,rfl,HA,HK1,⟨m1,rfl⟩⟩ := hrel
  cases gk with
  | zero => exact absurd HA.out (by simp [incipitref10_lf.l0])
  | succ k1 =>
   have H := HA.out
   clear HA
   simp only [incipitref10_lf.l0] at H
   by_cases c2 : x4_1 < (a0.size : Int)
   ·rw [if_pos c2] at H
    have c2b0 : decide (x4_1 < (a0.size : Int)) = true := decide_eq_true c2
    clear c2
    by_cases c3 : 0 ≤ x4_1
    ·rw [if_pos c3] at H
     have c3b0 : decide (0 ≤ x4_1) = true := decide_eq_true c3
     clear c3
     by_cases c5 : (bt a0 x4_1) = 10
     ·rw [if_pos c5] at H
      have c5b0 : ((bt a0 x4_1) == 10) = true := beq_iff_eq.mpr c5
      have c5b1 : ((bt a0 x4_1) != 10) = false := bne_eq_false_iff_eq.mpr c5
      clear c5
      have H' := Aside0.mk H
      clear H
      have p4 : 0 ≤ (x4_1 : Int) := of_decide_eq_true (by first | (with_reducible assumption) | assumption)
      have q4 : x4_1 < (a0.size : Int) := of_decide_eq_true (by first | (with_reducible assumption) | assumption)
      have hx4 := bt_at a0 x4_1
      replace p4 := eq_true p4
      replace q4 := eq_true q4
      go_wp2
      go_roundg k1
      case measure => have := HK1.out;omega
      case rel => exact ⟨(wrap64 (x3_1 + 1)),(wrap64 (x4_1 + 1)),(by first | rfl | (simp;done) | (simp [*];done)),(by first | rfl | (simp;done) | (simp [*];done)),H',⟨by have := HK1.out;omega⟩,by repeat (first | exact Drawn0.refl _ | apply Drawn0.step)⟩
     ·rw [if_neg c5] at H
      have c5b0 : ((bt a0 x4_1) == 10) = false := beq_eq_false_iff_ne.mpr c5
      have c5b1 : ((bt a0 x4_1) != 10) = true := bne_iff_ne.mpr c5
      have H' := Aside0.mk H
      clear H
      have p4 : 0 ≤ (x4_1 : Int) := of_decide_eq_true (by first | (with_reducible assumption) | assumption)
      have q4 : x4_1 < (a0.size : Int) := of_decide_eq_true (by first | (with_reducible assumption) | assumption)
      have hx4 := bt_at a0 x4_1
      replace p4 := eq_true p4
      replace q4 := eq_true q4
      go_wp2
      go_roundg k1
      case measure => have := HK1.out;omega
      case rel => exact ⟨(x3_1),(wrap64 (x4_1 + 1)),(by first | rfl | (simp;done) | (simp [*];done)),(by first | rfl | (simp;done) | (simp [*];done)),H',⟨by have := HK1.out;omega⟩,by repeat (first | exact Drawn0.refl _ | apply Drawn0.step)⟩
    ·rw [if_neg c3] at H
     exact absurd H (by simp)
   ·rw [if_neg c2] at H
    have c2b0 : decide (x4_1 < (a0.size : Int)) = false := decide_eq_false c2
    clear c2
    obtain rfl := Option.some.inj H
    go_wp2
    go_ret
    exact ⟨by first | rfl | exact retNe _ | (simp;done) | (simp [*];done),by repeat (first | exact Drawn0.refl _ | apply Drawn0.step)⟩

/-! ### incipitref10_gap: function 33 -/
def incipitref10_gap.f (k : Nat) (a0 : ByteArray) : Option (Int) := (incipitref09_White.f k a0).bind fun t273 => (if 0 ≤ t273 then (if t273 ≤ (a0.size : Int) then ((incipitref10_lf.f k (a0.extract 0 (t273 : Int).toNat)).bind fun t274 => (if t274 > 1 then (some (-1)) else (some t273))) else (none)) else (none))
set_option maxHeartbeats 8000000 in
set_option maxRecDepth 100000 in
theorem incipitref10_gap.calls (k : Nat) (a0 : ByteArray) (r : Int) (w : World) (h : incipitref10_gap.f k a0 = some r) :
  Calls Tryz.prog 33 #[.string a0] w fun e w' => e = .returned (.int .i64 r) ∧ Drawn0 w w' := by
 have H : ((incipitref09_White.f k a0).bind fun t273 => (if 0 ≤ t273 then (if t273 ≤ (a0.size : Int) then ((incipitref10_lf.f k (a0.extract 0 (t273 : Int).toNat)).bind fun t274 => (if t274 > 1 then (some (-1)) else (some t273))) else (none)) else (none))) = some r := h
 clear h
 replace H := Option.bind_eq_some_iff.mp H
 obtain ⟨t273,A20,H⟩ := H
 (try dsimp only at H)
 have A2 := Aside0.mk A20
 clear A20
 by_cases c3 : 0 ≤ t273
 ·rw [if_pos c3] at H
  have c3b0 := eq_true c3
  have c3b1 : decide (0 ≤ t273) = true := decide_eq_true c3
  clear c3
  by_cases c4 : t273 ≤ (a0.size : Int)
  ·rw [if_pos c4] at H
   have c4b0 := eq_true c4
   have c4b1 : decide (t273 ≤ (a0.size : Int)) = true := decide_eq_true c4
   clear c4
   replace H := Option.bind_eq_some_iff.mp H
   obtain ⟨t274,A50,H⟩ := H
   (try dsimp only at H)
   have A5 := Aside0.mk A50
   clear A50
   by_cases c6 : t274 > 1
   ·rw [if_pos c6] at H
    have c6b0 : decide (1 < t274) = true := decide_eq_true c6
    clear c6
    obtain rfl := Option.some.inj H
    go_enter Tryz.func33,Tryz.ntmps33
    go_wp2_with (first | ((with_reducible refine gate_callee (f := 56) rfl ?_);refine goesL_ (some 5) rfl rfl Tryz.func56 (by kernel_rfl) rfl #[.string a0] rfl (by (try simp only [List.map_toArray,List.map_cons,List.map_nil]);try rfl) ?_;(with_reducible refine (incipitref09_White.calls k a0 t273 _ A2.out).mono ?_);rintro e w' ⟨rfl,⟨nd,rfl⟩⟩;refine ⟨_,rfl,?_⟩) | ((with_reducible refine gate_callee (f := 57) rfl ?_);refine goesL_ (some 9) rfl rfl Tryz.func57 (by kernel_rfl) rfl #[.string (a0.extract 0 (t273 : Int).toNat)] rfl (by (try simp only [List.map_toArray,List.map_cons,List.map_nil]);try rfl) ?_;(with_reducible refine (incipitref10_lf.calls k (a0.extract 0 (t273 : Int).toNat) t274 _ A5.out).mono ?_);rintro e w' ⟨rfl,⟨nd,rfl⟩⟩;refine ⟨_,rfl,?_⟩))
    go_ret
    exact ⟨by first | rfl | exact retNe _ | (simp;done) | (simp [*];done),by repeat (first | exact Drawn0.refl _ | apply Drawn0.step)⟩
   ·rw [if_neg c6] at H
    have c6b0 : decide (1 < t274) = false := decide_eq_false c6
    clear c6
    obtain rfl := Option.some.inj H
    go_enter Tryz.func33,Tryz.ntmps33
    go_wp2_with (first | ((with_reducible refine gate_callee (f := 56) rfl ?_);refine goesL_ (some 5) rfl rfl Tryz.func56 (by kernel_rfl) rfl #[.string a0] rfl (by (try simp only [List.map_toArray,List.map_cons,List.map_nil]);try rfl) ?_;(with_reducible refine (incipitref09_White.calls k a0 t273 _ A2.out).mono ?_);rintro e w' ⟨rfl,⟨nd,rfl⟩⟩;refine ⟨_,rfl,?_⟩) | ((with_reducible refine gate_callee (f := 57) rfl ?_);refine goesL_ (some 9) rfl rfl Tryz.func57 (by kernel_rfl) rfl #[.string (a0.extract 0 (t273 : Int).toNat)] rfl (by (try simp only [List.map_toArray,List.map_cons,List.map_nil]);try rfl) ?_;(with_reducible refine (incipitref10_lf.calls k (a0.extract 0 (t273 : Int).toNat) t274 _ A5.out).mono ?_);rintro e w' ⟨rfl,⟨nd,rfl⟩⟩;refine ⟨_,rfl,?_⟩))
    go_ret
    exact ⟨by first | rfl | exact retNe _ | (simp;done) | (simp [*];done),by repeat (first | exact Drawn0.refl _ | apply Drawn0.step)⟩
  ·rw [if_neg c4] at H
   exact absurd H (by simp)
 ·rw [if_neg c3] at H
  exact absurd H (by simp)

/-! ### incipitref04_end: function 105 -/
def incipitref04_end.l0 : Nat → ByteArray → Int → Option (Int)
  | 0,_,_ => none
  | k + 1,x0,x3 => if x3 < (x0.size : Int) then (if 0 ≤ x3 then (if (bt x0 x3) = 59 then (some x3) else (incipitref04_end.l0 k x0 (wrap64 (x3 + 1)))) else (none)) else (some (-1))
def incipitref04_end.f (k : Nat) (a0 : ByteArray) : Option (Int) := incipitref04_end.l0 k a0 0
set_option maxHeartbeats 8000000 in
set_option maxRecDepth 100000 in
theorem incipitref04_end.calls (k : Nat) (a0 : ByteArray) (r : Int) (w : World) (h : incipitref04_end.f k a0 = some r) :
  Calls Tryz.prog 105 #[.string a0] w fun e w' => e = .returned (.int .i64 r) ∧ Drawn0 w w' := by
 have H : (incipitref04_end.l0 k a0 0) = some r := h
 clear h
 have H' := Aside0.mk H
 clear H
 go_enter Tryz.func105,Tryz.ntmps105
 go_wp2
 go_loopg [3] k (fun kq v3 w' => ∃ (x3_1 : Int),v3 = .int .i64 x3_1 ∧ Aside0 (incipitref04_end.l0 kq a0 x3_1 = some r) ∧ Aside0 (kq ≤ k) ∧ Drawn0 w w')
 case atStart => exact ⟨(0),(by first | rfl | (simp;done) | (simp [*];done)),H',⟨Nat.le_refl _⟩,by repeat (first | exact Drawn0.refl _ | apply Drawn0.step)⟩
 case round =>
  clear H'
  try clear c1
  obtain ⟨x3_1,rfl,HA,HK1,⟨m1,rfl⟩⟩ := hrel
  cases gk with
  | zero => exact absurd HA.out (by simp [incipitref04_end.l0])
  | succ k1 =>
   have H := HA.out
   clear HA
   simp only [incipitref04_end.l0] at H
   by_cases c2 : x3_1 < (a0.size : Int)
   ·rw [if_pos c2] at H
    have c2b0 : decide (x3_1 < (a0.size : Int)) = true := decide_eq_true c2
    clear c2
    by_cases c3 : 0 ≤ x3_1
    ·rw [if_pos c3] at H
     have c3b0 : decide (0 ≤ x3_1) = true := decide_eq_true c3
     clear c3
     by_cases c5 : (bt a0 x3_1) = 59
     ·rw [if_pos c5] at H
      have c5b0 : ((bt a0 x3_1) == 59) = true := beq_iff_eq.mpr c5
      have c5b1 : ((bt a0 x3_1) != 59) = false := bne_eq_false_iff_eq.mpr c5
      clear c5
      obtain rfl := Option.some.inj H
      have p4 : 0 ≤ (x3_1 : Int) := of_decide_eq_true (by first | (with_reducible assumption) | assumption)
      have q4 : x3_1 < (a0.size : Int) := of_decide_eq_true (by first | (with_reducible assumption) | assumption)
      have hx4 := bt_at a0 x3_1
      replace p4 := eq_true p4
      replace q4 := eq_true q4
      go_wp2
      go_ret
      exact ⟨by first | rfl | exact retNe _ | (simp;done) | (simp [*];done),by repeat (first | exact Drawn0.refl _ | apply Drawn0.step)⟩
     ·rw [if_neg c5] at H
      have c5b0 : ((bt a0 x3_1) == 59) = false := beq_eq_false_iff_ne.mpr c5
      have c5b1 : ((bt a0 x3_1) != 59) = true := bne_iff_ne.mpr c5
      have H' := Aside0.mk H
      clear H
      have p4 : 0 ≤ (x3_1 : Int) := of_decide_eq_true (by first | (with_reducible assumption) | assumption)
      have q4 : x3_1 < (a0.size : Int) := of_decide_eq_true (by first | (with_reducible assumption) | assumption)
      have hx4 := bt_at a0 x3_1
      replace p4 := eq_true p4
      replace q4 := eq_true q4
      go_wp2
      go_roundg k1
      case measure => have := HK1.out;omega
      case rel => exact ⟨(wrap64 (x3_1 + 1)),(by first | rfl | (simp;done) | (simp [*];done)),H',⟨by have := HK1.out;omega⟩,by repeat (first | exact Drawn0.refl _ | apply Drawn0.step)⟩
    ·rw [if_neg c3] at H
     exact absurd H (by simp)
   ·rw [if_neg c2] at H
    have c2b0 : decide (x3_1 < (a0.size : Int)) = false := decide_eq_false c2
    clear c2
    obtain rfl := Option.some.inj H
    go_wp2
    go_ret
    exact ⟨by first | rfl | exact retNe _ | (simp;done) | (simp [*];done),by repeat (first | exact Drawn0.refl _ | apply Drawn0.step)⟩


end Go.Proofs.YtekifcbokdidlaaGreatDoor.PA

namespace Go.Proofs.YtekifcbokdidlaaGreatDoor.PA
open Go.RowKit Go.Proofs.YtekifcbokdidlaaGreatDoorW.PrintWords Go.Proofs.YtekifcbokdidlaaGreatDoorW.PrintLast Go.Proofs.YtekifcbokdidlaaGreatDoorW.PrintMore
attribute [local go_sem] max2_int min2_int max_two min_two max_three min_three max_four min_four   -- for this text's walks alone
set_option linter.unusedVariables false
set_option linter.unusedSimpArgs false

/-! ### incipitref04_Named: function 106 -/
def incipitref04_Named.l0 : Nat → ByteArray → List (S128) → Int → Option (ByteArray × Bool)
  | 0,_,_,_ => none
  | k + 1,x0,x4,x5 => if x5 < (x4.length : Int) then (if 0 ≤ x5 then (if ((rd_T128 x4 x5).f0).toList = x0.toList then (some ((Go.Utf8.encode ((rd_T128 x4 x5).f1)),true)) else (incipitref04_Named.l0 k x0 x4 (wrap64 (x5 + 1)))) else (none)) else (some ((⟨#[]⟩ : ByteArray),false))
def incipitref04_Named.f (k : Nat) (a0 : ByteArray) : Option (ByteArray × Bool) := (incipitref04_Table.f).bind fun t275 => (incipitref04_Named.l0 k a0 t275 0)
set_option maxHeartbeats 8000000 in
set_option maxRecDepth 100000 in
theorem incipitref04_Named.calls (k : Nat) (a0 : ByteArray) (r1 : ByteArray) (r2 : Bool) (w : World) (h : incipitref04_Named.f k a0 = some (r1,r2)) :
  Calls Tryz.prog 106 #[.string a0] w fun e w' => e = .returned (.tuple #[.string r1,.bool r2]) ∧ Below w.heap.size w w' := by
 have HB := Aside0.mk (Below.refl w.heap.size w)
 have H : ((incipitref04_Table.f).bind fun t275 => (incipitref04_Named.l0 k a0 t275 0)) = some (r1,r2) := h
 clear h
 replace H := Option.bind_eq_some_iff.mp H
 obtain ⟨t275,A20,H⟩ := H
 (try dsimp only at H)
 have A2 := Aside0.mk A20
 clear A20
 have H' := Aside0.mk H
 clear H
 go_enter Tryz.func106,Tryz.ntmps106
 go_wp2_with (first | ((with_reducible refine gate_callee (f := 128) rfl ?_);refine goesL_ (some 6) rfl rfl Tryz.func128 (by kernel_rfl) rfl #[] rfl (by (try simp only [List.map_toArray,List.map_cons,List.map_nil]);try rfl) ?_;(with_reducible refine (incipitref04_Table.calls  t275 _ A2.out).mono ?_);rintro e w3 ⟨v276,rfl,ho0,hb⟩;refine ⟨_,rfl,?_⟩;have n0_ := Aside0.mk (Kd.R_lower ho0 (below_size HB.out));have n1_ := Aside0.mk (below_step HB.out hb);clear HB;have HO277 := n0_;have HB := n1_;clear n0_ n1_;(try clear ho0)))
 go_loopg [5] k (fun kq v5 w' => ∃ (x5_1 : Int),v5 = .int .i64 x5_1 ∧ Aside0 (incipitref04_Named.l0 kq a0 t275 x5_1 = some (r1,r2)) ∧ Aside0 (kq ≤ k) ∧ Aside0 (Kd.R k128 128 w' w.heap.size (fun _ => True) v276 t275) ∧ Aside0 (Below w.heap.size w w'))
 case atStart => exact ⟨(0),(by first | rfl | (simp;done) | (simp [*];done)),H',⟨Nat.le_refl _⟩,⟨by (with_reducible repeat (first | apply Kd.R_alloc | apply Kd.R_drewN | apply Kd.R_drew));exact HO277.out⟩,⟨by repeat (first | (with_reducible first | exact HB.out | apply below_alloc | apply pw_below_drewN | apply below_drew1) | exact HB.out)⟩⟩
 case round =>
  clear H'
  try clear c1
  try clear p2
  obtain ⟨x5_1,rfl,HA,HK1,HO_4,HB⟩ := hrel
  cases gk with
  | zero => exact absurd HA.out (by simp [incipitref04_Named.l0])
  | succ k1 =>
   have H := HA.out
   clear HA
   simp only [incipitref04_Named.l0] at H
   by_cases c4 : x5_1 < (t275.length : Int)
   ·rw [if_pos c4] at H
    have c4b0 : decide (x5_1 < (t275.length : Int)) = true := decide_eq_true c4
    clear c4
    by_cases c5 : 0 ≤ x5_1
    ·rw [if_pos c5] at H
     have c5b0 : decide (0 ≤ x5_1) = true := decide_eq_true c5
     clear c5
     by_cases c6 : ((rd_T128 t275 x5_1).f0).toList = a0.toList
     ·rw [if_pos c6] at H
      have c6b0 : (((rd_T128 t275 x5_1).f0).toList == a0.toList) = true := beq_iff_eq.mpr c6
      have c6b1 : (((rd_T128 t275 x5_1).f0).toList != a0.toList) = false := bne_eq_false_iff_eq.mpr c6
      clear c6
      simp only [Option.some.injEq,Prod.mk.injEq] at H
      obtain ⟨rfl,rfl⟩ := H
      obtain ⟨Ao7,co7,eo7⟩ := Kd.R_slice HO_4.out
      subst eo7
      have p278 : 0 ≤ (x5_1 : Int) := of_decide_eq_true (by first | (with_reducible assumption) | assumption)
      have q278 : x5_1 < (t275.length : Int) := of_decide_eq_true (by first | (with_reducible assumption) | assumption)
      obtain ⟨ad278,e278,hx278_0,hx278_1⟩ := at_T128 (Kd.R_reads' HO_4.out).2.2 x5_1 p278 q278
      cases e278
      replace p278 := eq_true p278
      replace q278 := eq_true q278
      have p279 : 0 ≤ (x5_1 : Int) := of_decide_eq_true (by first | (with_reducible assumption) | assumption)
      have q279 : x5_1 < (t275.length : Int) := of_decide_eq_true (by first | (with_reducible assumption) | assumption)
      obtain ⟨ad279,e279,hx279_0,hx279_1⟩ := at_T128 (Kd.R_reads' HO_4.out).2.2 x5_1 p279 q279
      obtain rfl : ad278 = ad279 := (by injection e279)
      replace p279 := eq_true p279
      replace q279 := eq_true q279
      go_wp2
      go_ret2
      exact ⟨by first | rfl | (simp [errW_none,errW_some] <;> rfl) | (simp [*,errW_none,errW_some] <;> rfl),by repeat (first | (with_reducible first | exact HB.out | apply below_alloc | apply pw_below_drewN | apply below_drew1) | exact HB.out)⟩
     ·rw [if_neg c6] at H
      have c6b0 : (((rd_T128 t275 x5_1).f0).toList == a0.toList) = false := beq_eq_false_iff_ne.mpr c6
      have c6b1 : (((rd_T128 t275 x5_1).f0).toList != a0.toList) = true := bne_iff_ne.mpr c6
      have H' := Aside0.mk H
      clear H
      obtain ⟨Ao8,co8,eo8⟩ := Kd.R_slice HO_4.out
      subst eo8
      have p278 : 0 ≤ (x5_1 : Int) := of_decide_eq_true (by first | (with_reducible assumption) | assumption)
      have q278 : x5_1 < (t275.length : Int) := of_decide_eq_true (by first | (with_reducible assumption) | assumption)
      obtain ⟨ad278,e278,hx278_0,hx278_1⟩ := at_T128 (Kd.R_reads' HO_4.out).2.2 x5_1 p278 q278
      cases e278
      replace p278 := eq_true p278
      replace q278 := eq_true q278
      go_wp2
      go_roundg k1
      case measure => have := HK1.out;omega
      case rel => exact ⟨(wrap64 (x5_1 + 1)),(by first | rfl | (simp;done) | (simp [*];done)),H',⟨by have := HK1.out;omega⟩,⟨by (with_reducible repeat (first | apply Kd.R_alloc | apply Kd.R_drewN | apply Kd.R_drew));exact HO_4.out⟩,⟨by repeat (first | (with_reducible first | exact HB.out | apply below_alloc | apply pw_below_drewN | apply below_drew1) | exact HB.out)⟩⟩
    ·rw [if_neg c5] at H
     exact absurd H (by simp)
   ·rw [if_neg c4] at H
    have c4b0 : decide (x5_1 < (t275.length : Int)) = false := decide_eq_false c4
    clear c4
    simp only [Option.some.injEq,Prod.mk.injEq] at H
    obtain ⟨rfl,rfl⟩ := H
    obtain ⟨Ao9,co9,eo9⟩ := Kd.R_slice HO_4.out
    subst eo9
    go_wp2
    go_ret2
    exact ⟨by first | rfl | (simp [errW_none,errW_some] <;> rfl) | (simp [*,errW_none,errW_some] <;> rfl),by repeat (first | (with_reducible first | exact HB.out | apply below_alloc | apply pw_below_drewN | apply below_drew1) | exact HB.out)⟩

/-! ### incipitref04_number: function 107 -/
mutual
def incipitref04_number.j0 : Nat → ByteArray → Int → Bool → Option (Int)
 | 0,_,_,_ => none
 | k + 1,x0,x1,x19 => if x19 = true then (some (-1)) else (incipitref04_number.l0 k x0 x1 0 0)
def incipitref04_number.l0 : Nat → ByteArray → Int → Int → Int → Option (Int)
 | 0,_,_,_,_ => none
 | k + 1,x0,x1,x7,x8 => if x8 < (x0.size : Int) then (incipitref04_number.l1 k x0 x1 x7 x8 (-1) 0) else (some x7)
def incipitref04_number.l1 : Nat → ByteArray → Int → Int → Int → Int → Int → Option (Int)
 | 0,_,_,_,_,_,_ => none
 | k + 1,x0,x1,x7,x8,x9,x10 => if x10 < x1 then (if 0 ≤ x8 then (if x8 < (x0.size : Int) then (if 0 ≤ x10 then (if x10 < 16 then (if (bt x0 x8) = (bt (⟨#[48,49,50,51,52,53,54,55,56,57,97,98,99,100,101,102]⟩ : ByteArray) x10) then (incipitref04_number.l1 k x0 x1 x7 x8 x10 (wrap64 (x10 + 1))) else (if (bt x0 x8) = (bt (⟨#[48,49,50,51,52,53,54,55,56,57,65,66,67,68,69,70]⟩ : ByteArray) x10) then (incipitref04_number.l1 k x0 x1 x7 x8 x10 (wrap64 (x10 + 1))) else (incipitref04_number.l1 k x0 x1 x7 x8 x9 (wrap64 (x10 + 1))))) else (none)) else (none)) else (none)) else (none)) else (if x9 < 0 then (some (-1)) else (incipitref04_number.l0 k x0 x1 (wrap64 ((wrap64 (x7 * x1)) + x9)) (wrap64 (x8 + 1))))
end
def incipitref04_number.f (k : Nat) (a0 : ByteArray) (a1 : Int) (a2 : Int) : Option (Int) := if (a0.size : Int) = 0 then (incipitref04_number.j0 k a0 a1 true) else (incipitref04_number.j0 k a0 a1 (decide ((a0.size : Int) > a2)))
set_option maxHeartbeats 8000000 in
set_option maxRecDepth 100000 in
theorem incipitref04_number.calls (k : Nat) (a0 : ByteArray) (a1 : Int) (a2 : Int) (r : Int) (w : World) (h : incipitref04_number.f k a0 a1 a2 = some r) :
  Calls Tryz.prog 107 #[.string a0,.int .i64 a1,.int .i64 a2] w fun e w' => e = .returned (.int .i64 r) ∧ Drawn0 w w' := by
 have H : (if (a0.size : Int) = 0 then (incipitref04_number.j0 k a0 a1 true) else (incipitref04_number.j0 k a0 a1 (decide ((a0.size : Int) > a2)))) = some r := h
 clear h
 have HC4 := Aside0.mk H
 clear H
 go_enter Tryz.func107,Tryz.ntmps107
 go_upto_region 1 with (fail)
 repeat (go_quiet (fail);go_upto_region 1 with (fail))
 go_cut [19] (fun v19 wc => ∃ (kq : Nat) (x19_3 : Bool),v19 = .bool x19_3 ∧ Aside0 (incipitref04_number.j0 kq a0 a1 x19_3 = some r) ∧ Aside0 (kq ≤ k) ∧ Drawn0 w wc)
 case first =>
  have H := HC4.out
  clear HC4
  by_cases c5 : (a0.size : Int) = 0
  ·rw [if_pos c5] at H
   have c5b0 : ((a0.size : Int) == 0) = true := beq_iff_eq.mpr c5
   have c5b1 : ((a0.size : Int) != 0) = false := bne_eq_false_iff_eq.mpr c5
   clear c5
   (first | rw [c5b0] | (simp only [i64_w,i32_w];rw [c5b0]) | skip)
   have H' := Aside0.mk H
   clear H
   go_wp2
   repeat (go_quiet (fail);try go_wp2)
   go_meet
   case rel => exact ⟨_,(true),(by first | rfl | (simp;done) | (simp [*];done)),H',⟨by first | omega | exact Nat.le_refl _⟩,by repeat (first | exact Drawn0.refl _ | apply Drawn0.step)⟩
  ·rw [if_neg c5] at H
   have c5b0 : ((a0.size : Int) == 0) = false := beq_eq_false_iff_ne.mpr c5
   have c5b1 : ((a0.size : Int) != 0) = true := bne_iff_ne.mpr c5
   (first | rw [c5b0] | (simp only [i64_w,i32_w];rw [c5b0]) | skip)
   have H' := Aside0.mk H
   clear H
   go_wp2
   repeat (go_quiet (fail);try go_wp2)
   go_meet
   case rel => exact ⟨_,(decide ((a0.size : Int) > a2)),(by first | rfl | (simp;done) | (simp [*];done)),H',⟨by first | omega | exact Nat.le_refl _⟩,by repeat (first | exact Drawn0.refl _ | apply Drawn0.step)⟩
 case rest =>
  clear HC4
  try clear c1
  try clear p2
  try clear c5
  try clear c5b0
  try clear c5b1
  obtain ⟨kq,x19_3,rfl,HA,HJ3,⟨mc3,rfl⟩⟩ := hcut
  cases kq with
  | zero => exact absurd HA.out (by simp [incipitref04_number.j0])
  | succ kj3 =>
   have H := HA.out
   clear HA
   simp only [incipitref04_number.j0] at H
   by_cases c6 : x19_3 = true
   ·subst c6
    have H1 : (some (-1)) = some r := by rw [if_pos rfl] at H;exact H
    clear H
    have H := H1
    clear H1
    obtain rfl := Option.some.inj H
    go_wp2
    repeat (go_quiet (fail);try go_wp2)
    go_ret
    exact ⟨by first | rfl | (simp;done) | (simp [*];done),by repeat (first | exact Drawn0.refl _ | apply Drawn0.step)⟩
   ·replace c6 := Bool.eq_false_iff.mpr c6
    subst c6
    have H1 : (incipitref04_number.l0 kj3 a0 a1 0 0) = some r := by rw [if_neg (show ¬ (false = true) by decide)] at H;exact H
    clear H
    have H := H1
    clear H1
    have H' := Aside0.mk H
    clear H
    go_wp2
    repeat (go_quiet (fail);try go_wp2)
    go_loopg [7,8] kj3 (fun kq v7 v8 w' => ∃ (x7_2 : Int) (x8_2 : Int),v7 = .int .i64 x7_2 ∧ v8 = .int .i64 x8_2 ∧ Aside0 (incipitref04_number.l0 kq a0 a1 x7_2 x8_2 = some r) ∧ Aside0 (kq ≤ kj3) ∧ Drawn0 w w')
    case atStart => exact ⟨(0),(0),(by first | rfl | (simp;done) | (simp [*];done)),(by first | rfl | (simp;done) | (simp [*];done)),H',⟨Nat.le_refl _⟩,by repeat (first | exact Drawn0.refl _ | apply Drawn0.step)⟩
    case round =>
     clear H'
     try clear c1
     try clear p2
     try clear c3
     try clear c5
     try clear c5b0
     try clear c5b1
     try clear c6
     try clear p2
     obtain ⟨x7_2,x8_2,rfl,rfl,HA,HK2,⟨m2,rfl⟩⟩ := hrel
     cases gk with
     | zero => exact absurd HA.out (by simp [incipitref04_number.l0])
     | succ k2 =>
      have H := HA.out
      clear HA
      simp only [incipitref04_number.l0] at H
      by_cases c7 : x8_2 < (a0.size : Int)
      ·rw [if_pos c7] at H
       have c7b0 : decide (x8_2 < (a0.size : Int)) = true := decide_eq_true c7
       clear c7
       have H' := Aside0.mk H
       clear H
       go_wp2
       repeat (go_quiet (fail);try go_wp2)
       go_loopg [9,10] k2 (fun kq v9 v10 w' => ∃ (x9_3 : Int) (x10_3 : Int),v9 = .int .i64 x9_3 ∧ v10 = .int .i64 x10_3 ∧ Aside0 (incipitref04_number.l1 kq a0 a1 x7_2 x8_2 x9_3 x10_3 = some r) ∧ Aside0 (kq ≤ k2) ∧ Drawn0 w w')
       case atStart => exact ⟨((-1)),(0),(by first | rfl | (simp;done) | (simp [*];done)),(by first | rfl | (simp;done) | (simp [*];done)),H',⟨Nat.le_refl _⟩,by repeat (first | exact Drawn0.refl _ | apply Drawn0.step)⟩
       case round =>
        clear H'
        try clear c1
        try clear p2
        try clear c3
        try clear c5
        try clear c5b0
        try clear c5b1
        try clear c6
        try clear c7
        try clear c7b0
        try clear p2
        obtain ⟨x9_3,x10_3,rfl,rfl,HA,HK3,⟨m3,rfl⟩⟩ := hrel
        cases gk with
        | zero => exact absurd HA.out (by simp [incipitref04_number.l1])
        | succ k3 =>
         have H := HA.out
         clear HA
         simp only [incipitref04_number.l1] at H
         by_cases c8 : x10_3 < a1
         ·rw [if_pos c8] at H
          have c8b0 : decide (x10_3 < a1) = true := decide_eq_true c8
          clear c8
          by_cases c9 : 0 ≤ x8_2
          ·rw [if_pos c9] at H
           have c9b0 : decide (0 ≤ x8_2) = true := decide_eq_true c9
           clear c9
           by_cases c10 : x8_2 < (a0.size : Int)
           ·rw [if_pos c10] at H
            have c10b0 : decide (x8_2 < (a0.size : Int)) = true := decide_eq_true c10
            clear c10
            by_cases c12 : 0 ≤ x10_3
            ·rw [if_pos c12] at H
             have c12b0 : decide (0 ≤ x10_3) = true := decide_eq_true c12
             clear c12
             by_cases c13 : x10_3 < 16
             ·rw [if_pos c13] at H
              have c13b0 : decide (x10_3 < 16) = true := decide_eq_true c13
              clear c13
              by_cases c15 : (bt a0 x8_2) = (bt (⟨#[48,49,50,51,52,53,54,55,56,57,97,98,99,100,101,102]⟩ : ByteArray) x10_3)
              ·rw [if_pos c15] at H
               have c15b0 : ((bt a0 x8_2) == (bt (⟨#[48,49,50,51,52,53,54,55,56,57,97,98,99,100,101,102]⟩ : ByteArray) x10_3)) = true := beq_iff_eq.mpr c15
               have c15b1 : ((bt a0 x8_2) != (bt (⟨#[48,49,50,51,52,53,54,55,56,57,97,98,99,100,101,102]⟩ : ByteArray) x10_3)) = false := bne_eq_false_iff_eq.mpr c15
               clear c15
               have H' := Aside0.mk H
               clear H
               have p11 : 0 ≤ (x8_2 : Int) := of_decide_eq_true (by first | (with_reducible assumption) | assumption)
               have q11 : x8_2 < (a0.size : Int) := of_decide_eq_true (by first | (with_reducible assumption) | assumption)
               have hx11 := bt_at a0 x8_2
               replace p11 := eq_true p11
               replace q11 := eq_true q11
               have p14 : 0 ≤ (x10_3 : Int) := of_decide_eq_true (by first | (with_reducible assumption) | assumption)
               have q14 : x10_3 < (16 : Int) := of_decide_eq_true (by first | (with_reducible assumption) | assumption)
               have hx14 := bt_at (⟨#[48,49,50,51,52,53,54,55,56,57,97,98,99,100,101,102]⟩ : ByteArray) x10_3
               replace p14 := eq_true p14
               replace q14 := eq_true q14
               go_wp2
               repeat (go_quiet (fail);try go_wp2)
               go_roundg k3
               case measure => have := HJ3.out;have := HK2.out;have := HK3.out;omega
               case rel => exact ⟨(x10_3),(wrap64 (x10_3 + 1)),(by first | rfl | (simp;done) | (simp [*];done)),(by first | rfl | (simp;done) | (simp [*];done)),H',⟨by have := HJ3.out;have := HK2.out;have := HK3.out;omega⟩,by repeat (first | exact Drawn0.refl _ | apply Drawn0.step)⟩
              ·rw [if_neg c15] at H
               have c15b0 : ((bt a0 x8_2) == (bt (⟨#[48,49,50,51,52,53,54,55,56,57,97,98,99,100,101,102]⟩ : ByteArray) x10_3)) = false := beq_eq_false_iff_ne.mpr c15
               have c15b1 : ((bt a0 x8_2) != (bt (⟨#[48,49,50,51,52,53,54,55,56,57,97,98,99,100,101,102]⟩ : ByteArray) x10_3)) = true := bne_iff_ne.mpr c15
               by_cases c18 : (bt a0 x8_2) = (bt (⟨#[48,49,50,51,52,53,54,55,56,57,65,66,67,68,69,70]⟩ : ByteArray) x10_3)
               ·rw [if_pos c18] at H
                have c18b0 : ((bt a0 x8_2) == (bt (⟨#[48,49,50,51,52,53,54,55,56,57,65,66,67,68,69,70]⟩ : ByteArray) x10_3)) = true := beq_iff_eq.mpr c18
                have c18b1 : ((bt a0 x8_2) != (bt (⟨#[48,49,50,51,52,53,54,55,56,57,65,66,67,68,69,70]⟩ : ByteArray) x10_3)) = false := bne_eq_false_iff_eq.mpr c18
                clear c18
                have H' := Aside0.mk H
                clear H
                have p11 : 0 ≤ (x8_2 : Int) := of_decide_eq_true (by first | (with_reducible assumption) | assumption)
                have q11 : x8_2 < (a0.size : Int) := of_decide_eq_true (by first | (with_reducible assumption) | assumption)
                have hx11 := bt_at a0 x8_2
                replace p11 := eq_true p11
                replace q11 := eq_true q11
                have p14 : 0 ≤ (x10_3 : Int) := of_decide_eq_true (by first | (with_reducible assumption) | assumption)
                have q14 : x10_3 < (16 : Int) := of_decide_eq_true (by first | (with_reducible assumption) | assumption)
                have hx14 := bt_at (⟨#[48,49,50,51,52,53,54,55,56,57,97,98,99,100,101,102]⟩ : ByteArray) x10_3
                replace p14 := eq_true p14
                replace q14 := eq_true q14
                have p16 : 0 ≤ (x8_2 : Int) := of_decide_eq_true (by first | (with_reducible assumption) | assumption)
                have q16 : x8_2 < (a0.size : Int) := of_decide_eq_true (by first | (with_reducible assumption) | assumption)
                have hx16 := bt_at a0 x8_2
                replace p16 := eq_true p16
                replace q16 := eq_true q16
                have p17 : 0 ≤ (x10_3 : Int) := of_decide_eq_true (by first | (with_reducible assumption) | assumption)
                have q17 : x10_3 < (16 : Int) := of_decide_eq_true (by first | (with_reducible assumption) | assumption)
                have hx17 := bt_at (⟨#[48,49,50,51,52,53,54,55,56,57,65,66,67,68,69,70]⟩ : ByteArray) x10_3
                replace p17 := eq_true p17
                replace q17 := eq_true q17
                go_wp2
                repeat (go_quiet (fail);try go_wp2)
                go_roundg k3
                case measure => have := HJ3.out;have := HK2.out;have := HK3.out;omega
                case rel => exact ⟨(x10_3),(wrap64 (x10_3 + 1)),(by first | rfl | (simp;done) | (simp [*];done)),(by first | rfl | (simp;done) | (simp [*];done)),H',⟨by have := HJ3.out;have := HK2.out;have := HK3.out;omega⟩,by repeat (first | exact Drawn0.refl _ | apply Drawn0.step)⟩
               ·rw [if_neg c18] at H
                have c18b0 : ((bt a0 x8_2) == (bt (⟨#[48,49,50,51,52,53,54,55,56,57,65,66,67,68,69,70]⟩ : ByteArray) x10_3)) = false := beq_eq_false_iff_ne.mpr c18
                have c18b1 : ((bt a0 x8_2) != (bt (⟨#[48,49,50,51,52,53,54,55,56,57,65,66,67,68,69,70]⟩ : ByteArray) x10_3)) = true := bne_iff_ne.mpr c18
                have H' := Aside0.mk H
                clear H
                have p11 : 0 ≤ (x8_2 : Int) := of_decide_eq_true (by first | (with_reducible assumption) | assumption)
                have q11 : x8_2 < (a0.size : Int) := of_decide_eq_true (by first | (with_reducible assumption) | assumption)
                have hx11 := bt_at a0 x8_2
                replace p11 := eq_true p11
                replace q11 := eq_true q11
                have p14 : 0 ≤ (x10_3 : Int) := of_decide_eq_true (by first | (with_reducible assumption) | assumption)
                have q14 : x10_3 < (16 : Int) := of_decide_eq_true (by first | (with_reducible assumption) | assumption)
                have hx14 := bt_at (⟨#[48,49,50,51,52,53,54,55,56,57,97,98,99,100,101,102]⟩ : ByteArray) x10_3
                replace p14 := eq_true p14
                replace q14 := eq_true q14
                have p16 : 0 ≤ (x8_2 : Int) := of_decide_eq_true (by first | (with_reducible assumption) | assumption)
                have q16 : x8_2 < (a0.size : Int) := of_decide_eq_true (by first | (with_reducible assumption) | assumption)
                have hx16 := bt_at a0 x8_2
                replace p16 := eq_true p16
                replace q16 := eq_true q16
                have p17 : 0 ≤ (x10_3 : Int) := of_decide_eq_true (by first | (with_reducible assumption) | assumption)
                have q17 : x10_3 < (16 : Int) := of_decide_eq_true (by first | (with_reducible assumption) | assumption)
                have hx17 := bt_at (⟨#[48,49,50,51,52,53,54,55,56,57,65,66,67,68,69,70]⟩ : ByteArray) x10_3
                replace p17 := eq_true p17
                replace q17 := eq_true q17
                go_wp2
                repeat (go_quiet (fail);try go_wp2)
                go_roundg k3
                case measure => have := HJ3.out;have := HK2.out;have := HK3.out;omega
                case rel => exact ⟨(x9_3),(wrap64 (x10_3 + 1)),(by first | rfl | (simp;done) | (simp [*];done)),(by first | rfl | (simp;done) | (simp [*];done)),H',⟨by have := HJ3.out;have := HK2.out;have := HK3.out;omega⟩,by repeat (first | exact Drawn0.refl _ | apply Drawn0.step)⟩
             ·rw [if_neg c13] at H
              exact absurd H (by simp)
            ·rw [if_neg c12] at H
             exact absurd H (by simp)
           ·rw [if_neg c10] at H
            exact absurd H (by simp)
          ·rw [if_neg c9] at H
           exact absurd H (by simp)
         ·rw [if_neg c8] at H
          have c8b0 : decide (x10_3 < a1) = false := decide_eq_false c8
          clear c8
          by_cases c19 : x9_3 < 0
          ·rw [if_pos c19] at H
           have c19b0 : decide (x9_3 < 0) = true := decide_eq_true c19
           clear c19
           obtain rfl := Option.some.inj H
           go_wp2
           repeat (go_quiet (fail);try go_wp2)
           go_ret
           exact ⟨by first | rfl | (simp;done) | (simp [*];done),by repeat (first | exact Drawn0.refl _ | apply Drawn0.step)⟩
          ·rw [if_neg c19] at H
           have c19b0 : decide (x9_3 < 0) = false := decide_eq_false c19
           clear c19
           have H' := Aside0.mk H
           clear H
           go_wp2
           repeat (go_quiet (fail);try go_wp2)
           go_roundg k3
           case measure => have := HJ3.out;have := HK2.out;have := HK3.out;omega
           case rel => exact ⟨(wrap64 ((wrap64 (x7_2 * a1)) + x9_3)),(wrap64 (x8_2 + 1)),(by first | rfl | (simp;done) | (simp [*];done)),(by first | rfl | (simp;done) | (simp [*];done)),H',⟨by have := HJ3.out;have := HK2.out;have := HK3.out;omega⟩,by repeat (first | exact Drawn0.refl _ | apply Drawn0.step)⟩
      ·rw [if_neg c7] at H
       have c7b0 : decide (x8_2 < (a0.size : Int)) = false := decide_eq_false c7
       clear c7
       obtain rfl := Option.some.inj H
       go_wp2
       repeat (go_quiet (fail);try go_wp2)
       go_ret
       exact ⟨by first | rfl | (simp;done) | (simp [*];done),by repeat (first | exact Drawn0.refl _ | apply Drawn0.step)⟩

end Go.Proofs.YtekifcbokdidlaaGreatDoor.PA

namespace Go.Proofs.YtekifcbokdidlaaGreatDoor.PA
open Go.RowKit Go.Proofs.YtekifcbokdidlaaGreatDoorW.PrintWords Go.Proofs.YtekifcbokdidlaaGreatDoorW.PrintLast Go.Proofs.YtekifcbokdidlaaGreatDoorW.PrintMore
attribute [local go_sem] max2_int min2_int max_two min_two max_three min_three max_four min_four   -- for this text's walks alone
set_option linter.unusedVariables false
set_option linter.unusedSimpArgs false

/-! ### incipitref04_Read: function 87 -/
mutual
def incipitref04_Read.j0 : Nat → ByteArray → Int → Bool → Option (ByteArray × Int)
 | 0,_,_,_ => none
 | k + 1,x0,x4,x16 => if x16 = true then (some ((⟨#[]⟩ : ByteArray),0)) else (if 1 < (x0.size : Int) then (if (bt x0 1) = 35 then (if x4 > 2 then (if 2 < (x0.size : Int) then (if (bt x0 2) = 120 then (incipitref04_Read.j1 k x0 x4 true) else (incipitref04_Read.j1 k x0 x4 ((bt x0 2) == 88))) else (none)) else (incipitref04_Read.j1 k x0 x4 false)) else (if 1 ≤ x4 then (if x4 ≤ (x0.size : Int) then ((incipitref04_Named.f k (x0.extract 1 (x4 : Int).toNat)).bind fun bt281 => (if bt281.2 = true then (some (bt281.1,wrap64 (x4 + 1))) else (some ((⟨#[]⟩ : ByteArray),0)))) else (none)) else (none))) else (none))
def incipitref04_Read.j1 : Nat → ByteArray → Int → Bool → Option (ByteArray × Int)
 | 0,_,_,_ => none
 | k + 1,x0,x4,x43 => if x43 = true then (if 3 ≤ x4 then (if x4 ≤ (x0.size : Int) then ((incipitref04_number.f k (x0.extract 3 (x4 : Int).toNat) 16 6).bind fun t283 => (incipitref04_Read.j2 k x4 t283)) else (none)) else (none)) else (if 2 ≤ x4 then (if x4 ≤ (x0.size : Int) then ((incipitref04_number.f k (x0.extract 2 (x4 : Int).toNat) 10 7).bind fun t284 => (incipitref04_Read.j2 k x4 t284)) else (none)) else (none))
def incipitref04_Read.j2 : Nat → Int → Int → Option (ByteArray × Int)
 | 0,_,_ => none
 | k + 1,x4,x5 => if x5 < 0 then (some ((⟨#[]⟩ : ByteArray),0)) else (if x5 = 0 then (some ((Go.Utf8.encode 65533),wrap64 (x4 + 1))) else (if x5 ≥ 55296 then (if x5 ≤ 57343 then (some ((Go.Utf8.encode 65533),wrap64 (x4 + 1))) else (if x5 > 1114111 then (some ((Go.Utf8.encode 65533),wrap64 (x4 + 1))) else (some ((Go.Utf8.encode (wrap32 (x5))),wrap64 (x4 + 1))))) else (if x5 > 1114111 then (some ((Go.Utf8.encode 65533),wrap64 (x4 + 1))) else (some ((Go.Utf8.encode (wrap32 (x5))),wrap64 (x4 + 1))))))
end
def incipitref04_Read.f (k : Nat) (a0 : ByteArray) : Option (ByteArray × Int) := (incipitref04_end.f k a0).bind fun t280 => (if t280 < 2 then (incipitref04_Read.j0 k a0 t280 true) else (if 0 < (a0.size : Int) then (incipitref04_Read.j0 k a0 t280 ((bt a0 0) != 38)) else (none)))
set_option maxHeartbeats 8000000 in
set_option maxRecDepth 100000 in
theorem incipitref04_Read.calls (k : Nat) (a0 : ByteArray) (r1 : ByteArray) (r2 : Int) (w : World) (h : incipitref04_Read.f k a0 = some (r1,r2)) :
  Calls Tryz.prog 87 #[.string a0] w fun e w' => e = .returned (.tuple #[.string r1,.int .i64 r2]) ∧ Below w.heap.size w w' := by
 have HB := Aside0.mk (Below.refl w.heap.size w)
 have H : ((incipitref04_end.f k a0).bind fun t280 => (if t280 < 2 then (incipitref04_Read.j0 k a0 t280 true) else (if 0 < (a0.size : Int) then (incipitref04_Read.j0 k a0 t280 ((bt a0 0) != 38)) else (none)))) = some (r1,r2) := h
 clear h
 replace H := Option.bind_eq_some_iff.mp H
 obtain ⟨t280,A20,H⟩ := H
 (try dsimp only at H)
 have A2 := Aside0.mk A20
 clear A20
 have HC3 := Aside0.mk H
 clear H
 go_enter Tryz.func87,Tryz.ntmps87
 go_upto_region 2 with (first | ((with_reducible refine gate_callee (f := 105) rfl ?_);refine goesL_ (some 9) rfl rfl Tryz.func105 (by kernel_rfl) rfl #[.string a0] rfl (by (try simp only [List.map_toArray,List.map_cons,List.map_nil]);try rfl) ?_;(with_reducible refine (incipitref04_end.calls k a0 t280 _ A2.out).mono ?_);rintro e w' ⟨rfl,⟨nd,rfl⟩⟩;refine ⟨_,rfl,?_⟩))
 (try simp only [Act.put,List.setIfInBounds_toArray,List.set_cons_zero,List.set_cons_succ])
 go_cut [16] (fun v16 wc => ∃ (kq : Nat) (x16_2 : Bool),v16 = .bool x16_2 ∧ Aside0 (incipitref04_Read.j0 kq a0 t280 x16_2 = some (r1,r2)) ∧ Aside0 (kq ≤ k) ∧ Aside0 (Below w.heap.size w wc))
 case first =>
  have H := HC3.out
  clear HC3
  by_cases c4 : t280 < 2
  ·rw [if_pos c4] at H
   have c4b0 : decide (t280 < 2) = true := decide_eq_true c4
   clear c4
   (first | rw [c4b0] | (simp only [i64_w,i32_w];rw [c4b0]) | skip)
   have H' := Aside0.mk H
   clear H
   go_wp2
   go_meet
   case rel => exact ⟨_,(true),(by first | rfl | (simp;done) | (simp [*];done)),H',⟨by first | omega | exact Nat.le_refl _⟩,⟨by repeat (first | (with_reducible first | exact HB.out | apply below_alloc | apply pw_below_drewN | apply below_drew1) | exact HB.out)⟩⟩
  ·rw [if_neg c4] at H
   have c4b0 : decide (t280 < 2) = false := decide_eq_false c4
   clear c4
   (first | rw [c4b0] | (simp only [i64_w,i32_w];rw [c4b0]) | skip)
   by_cases c5 : 0 < (a0.size : Int)
   ·rw [if_pos c5] at H
    have c5b0 : decide (0 < (a0.size : Int)) = true := decide_eq_true c5
    have c5b1 : decide (0 < a0.size) = true := decide_eq_true (by omega)
    clear c5
    have H' := Aside0.mk H
    clear H
    have p6 : 0 ≤ (0 : Int) := (by omega)
    have q6 : 0 < a0.size := (by have : (0 : Int) < (a0.size : Int) := of_decide_eq_true (by first | (with_reducible assumption) | assumption);omega)
    have hx6 : ∀ h : 0 < a0.size,((a0[0]'h).toNat : Int) = bt a0 0 := bt_at a0 0
    clear p6
    have qi6 : (0 < (a0.size : Int)) = True := eq_true (of_decide_eq_true (by first | (with_reducible assumption) | assumption))
    replace q6 := eq_true q6
    go_wp2
    go_meet
    case rel => exact ⟨_,(((bt a0 0) != 38)),(by first | rfl | (simp;done) | (simp [*];done)),H',⟨by first | omega | exact Nat.le_refl _⟩,⟨by repeat (first | (with_reducible first | exact HB.out | apply below_alloc | apply pw_below_drewN | apply below_drew1) | exact HB.out)⟩⟩
   ·rw [if_neg c5] at H
    exact absurd H (by simp)
 case rest =>
  clear HC3
  try clear c1
  try clear p2
  try clear c4
  try clear c4b0
  try clear c5
  try clear c5b0
  try clear c5b1
  try clear p6
  try clear q6
  try clear hx6
  try clear qi6
  try clear p6
  try clear q6
  obtain ⟨kq,x16_2,rfl,HA,HJ2,HB⟩ := hcut
  cases kq with
  | zero => exact absurd HA.out (by simp [incipitref04_Read.j0])
  | succ kj2 =>
   have H := HA.out
   clear HA
   simp only [incipitref04_Read.j0] at H
   by_cases c7 : x16_2 = true
   ·subst c7
    have H1 : (some ((⟨#[]⟩ : ByteArray),0)) = some (r1,r2) := by rw [if_pos rfl] at H;exact H
    clear H
    have H := H1
    clear H1
    simp only [Option.some.injEq,Prod.mk.injEq] at H
    obtain ⟨rfl,rfl⟩ := H
    go_wp2
    go_ret2
    exact ⟨by first | rfl | (simp [errW_none,errW_some] <;> rfl) | (simp [*,errW_none,errW_some] <;> rfl),by repeat (first | (with_reducible first | exact HB.out | apply below_alloc | apply pw_below_drewN | apply below_drew1) | exact HB.out)⟩
   ·replace c7 := Bool.eq_false_iff.mpr c7
    subst c7
    have H1 : (if 1 < (a0.size : Int) then (if (bt a0 1) = 35 then (if t280 > 2 then (if 2 < (a0.size : Int) then (if (bt a0 2) = 120 then (incipitref04_Read.j1 kj2 a0 t280 true) else (incipitref04_Read.j1 kj2 a0 t280 ((bt a0 2) == 88))) else (none)) else (incipitref04_Read.j1 kj2 a0 t280 false)) else (if 1 ≤ t280 then (if t280 ≤ (a0.size : Int) then ((incipitref04_Named.f kj2 (a0.extract 1 (t280 : Int).toNat)).bind fun bt281 => (if bt281.2 = true then (some (bt281.1,wrap64 (t280 + 1))) else (some ((⟨#[]⟩ : ByteArray),0)))) else (none)) else (none))) else (none)) = some (r1,r2) := by rw [if_neg (show ¬ (false = true) by decide)] at H;exact H
    clear H
    have H := H1
    clear H1
    by_cases c8 : 1 < (a0.size : Int)
    ·rw [if_pos c8] at H
     have c8b0 : decide (1 < (a0.size : Int)) = true := decide_eq_true c8
     have c8b1 : decide (1 < a0.size) = true := decide_eq_true (by omega)
     clear c8
     by_cases c10 : (bt a0 1) = 35
     ·rw [if_pos c10] at H
      have c10b0 : ((bt a0 1) == 35) = true := beq_iff_eq.mpr c10
      have c10b1 : ((bt a0 1) != 35) = false := bne_eq_false_iff_eq.mpr c10
      clear c10
      have HC11 := Aside0.mk H
      clear H
      have p9 : 0 ≤ (1 : Int) := (by omega)
      have q9 : 1 < a0.size := (by have : (1 : Int) < (a0.size : Int) := of_decide_eq_true (by first | (with_reducible assumption) | assumption);omega)
      have hx9 : ∀ h : 1 < a0.size,((a0[1]'h).toNat : Int) = bt a0 1 := bt_at a0 1
      clear p9
      have qi9 : (1 < (a0.size : Int)) = True := eq_true (of_decide_eq_true (by first | (with_reducible assumption) | assumption))
      replace q9 := eq_true q9
      go_upto_region 10 with (fail)
      go_cut [43] (fun v43 wc => ∃ (kq : Nat) (x43_10 : Bool),v43 = .bool x43_10 ∧ Aside0 (incipitref04_Read.j1 kq a0 t280 x43_10 = some (r1,r2)) ∧ Aside0 (kq ≤ kj2) ∧ Aside0 (Below w.heap.size w wc))
      case first =>
       have H := HC11.out
       clear HC11
       by_cases c12 : t280 > 2
       ·rw [if_pos c12] at H
        have c12b0 : decide (2 < t280) = true := decide_eq_true c12
        clear c12
        (first | rw [c12b0] | (simp only [i64_w,i32_w];rw [c12b0]) | skip)
        by_cases c13 : 2 < (a0.size : Int)
        ·rw [if_pos c13] at H
         have c13b0 : decide (2 < (a0.size : Int)) = true := decide_eq_true c13
         have c13b1 : decide (2 < a0.size) = true := decide_eq_true (by omega)
         clear c13
         by_cases c15 : (bt a0 2) = 120
         ·rw [if_pos c15] at H
          have c15b0 : ((bt a0 2) == 120) = true := beq_iff_eq.mpr c15
          have c15b1 : ((bt a0 2) != 120) = false := bne_eq_false_iff_eq.mpr c15
          clear c15
          have H' := Aside0.mk H
          clear H
          have p14 : 0 ≤ (2 : Int) := (by omega)
          have q14 : 2 < a0.size := (by have : (2 : Int) < (a0.size : Int) := of_decide_eq_true (by first | (with_reducible assumption) | assumption);omega)
          have hx14 : ∀ h : 2 < a0.size,((a0[2]'h).toNat : Int) = bt a0 2 := bt_at a0 2
          clear p14
          have qi14 : (2 < (a0.size : Int)) = True := eq_true (of_decide_eq_true (by first | (with_reducible assumption) | assumption))
          replace q14 := eq_true q14
          go_wp2
          go_meet
          case rel => exact ⟨_,(true),(by first | rfl | (simp;done) | (simp [*];done)),H',⟨by have := HJ2.out;first | omega | exact Nat.le_refl _⟩,⟨by repeat (first | (with_reducible first | exact HB.out | apply below_alloc | apply pw_below_drewN | apply below_drew1) | exact HB.out)⟩⟩
         ·rw [if_neg c15] at H
          have c15b0 : ((bt a0 2) == 120) = false := beq_eq_false_iff_ne.mpr c15
          have c15b1 : ((bt a0 2) != 120) = true := bne_iff_ne.mpr c15
          have H' := Aside0.mk H
          clear H
          have p14 : 0 ≤ (2 : Int) := (by omega)
          have q14 : 2 < a0.size := (by have : (2 : Int) < (a0.size : Int) := of_decide_eq_true (by first | (with_reducible assumption) | assumption);omega)
          have hx14 : ∀ h : 2 < a0.size,((a0[2]'h).toNat : Int) = bt a0 2 := bt_at a0 2
          clear p14
          have qi14 : (2 < (a0.size : Int)) = True := eq_true (of_decide_eq_true (by first | (with_reducible assumption) | assumption))
          replace q14 := eq_true q14
          have p16 : 0 ≤ (2 : Int) := (by omega)
          have q16 : 2 < a0.size := (by have : (2 : Int) < (a0.size : Int) := of_decide_eq_true (by first | (with_reducible assumption) | assumption);omega)
          have hx16 : ∀ h : 2 < a0.size,((a0[2]'h).toNat : Int) = bt a0 2 := bt_at a0 2
          clear p16
          have qi16 : (2 < (a0.size : Int)) = True := eq_true (of_decide_eq_true (by first | (with_reducible assumption) | assumption))
          replace q16 := eq_true q16
          go_wp2
          go_meet
          case rel => exact ⟨_,(((bt a0 2) == 88)),(by first | rfl | (simp;done) | (simp [*];done)),H',⟨by have := HJ2.out;first | omega | exact Nat.le_refl _⟩,⟨by repeat (first | (with_reducible first | exact HB.out | apply below_alloc | apply pw_below_drewN | apply below_drew1) | exact HB.out)⟩⟩
        ·rw [if_neg c13] at H
         exact absurd H (by simp)
       ·rw [if_neg c12] at H
        have c12b0 : decide (2 < t280) = false := decide_eq_false c12
        clear c12
        (first | rw [c12b0] | (simp only [i64_w,i32_w];rw [c12b0]) | skip)
        have H' := Aside0.mk H
        clear H
        go_wp2
        go_meet
        case rel => exact ⟨_,(false),(by first | rfl | (simp;done) | (simp [*];done)),H',⟨by have := HJ2.out;first | omega | exact Nat.le_refl _⟩,⟨by repeat (first | (with_reducible first | exact HB.out | apply below_alloc | apply pw_below_drewN | apply below_drew1) | exact HB.out)⟩⟩
      case rest =>
       clear HC11
       try clear c1
       try clear p1
       try clear q1
       try clear hx1
       try clear qi1
       try clear p2
       try clear c4
       try clear c4b0
       try clear c5
       try clear c5b0
       try clear c5b1
       try clear p6
       try clear q6
       try clear hx6
       try clear qi6
       try clear c7
       try clear c8
       try clear c8b0
       try clear c8b1
       try clear p9
       try clear q9
       try clear hx9
       try clear qi9
       try clear c10
       try clear c10b0
       try clear c10b1
       try clear c12
       try clear c12b0
       try clear c13
       try clear c13b0
       try clear c13b1
       try clear p14
       try clear q14
       try clear hx14
       try clear qi14
       try clear c15
       try clear c15b0
       try clear c15b1
       try clear p16
       try clear q16
       try clear hx16
       try clear qi16
       try clear p14
       try clear p16
       try clear p2
       try clear p6
       try clear p9
       try clear q14
       try clear q16
       try clear q6
       try clear q9
       obtain ⟨kq,x43_10,rfl,HA,HJ10,HB⟩ := hcut
       cases kq with
       | zero => exact absurd HA.out (by simp [incipitref04_Read.j1])
       | succ kj10 =>
        have H := HA.out
        clear HA
        simp only [incipitref04_Read.j1] at H
        have HC17 := Aside0.mk H
        clear H
        go_upto_if 43 with (fail)
        go_cut [5] (fun v5 wc => ∃ (kq : Nat) (x5_16 : Int),v5 = .int .i64 x5_16 ∧ Aside0 (incipitref04_Read.j2 kq t280 x5_16 = some (r1,r2)) ∧ Aside0 (kq ≤ kj10) ∧ Aside0 (Below w.heap.size w wc))
        case first =>
         have H := HC17.out
         clear HC17
         by_cases c18 : x43_10 = true
         ·subst c18
          have H1 : (if 3 ≤ t280 then (if t280 ≤ (a0.size : Int) then ((incipitref04_number.f kj10 (a0.extract 3 (t280 : Int).toNat) 16 6).bind fun t283 => (incipitref04_Read.j2 kj10 t280 t283)) else (none)) else (none)) = some (r1,r2) := by rw [if_pos rfl] at H;exact H
          clear H
          have H := H1
          clear H1
          by_cases c19 : 3 ≤ t280
          ·rw [if_pos c19] at H
           have c19b0 := eq_true c19
           have c19b1 : decide (3 ≤ t280) = true := decide_eq_true c19
           clear c19
           by_cases c20 : t280 ≤ (a0.size : Int)
           ·rw [if_pos c20] at H
            have c20b0 := eq_true c20
            have c20b1 : decide (t280 ≤ (a0.size : Int)) = true := decide_eq_true c20
            clear c20
            replace H := Option.bind_eq_some_iff.mp H
            obtain ⟨t283,A210,H⟩ := H
            (try dsimp only at H)
            have A21 := Aside0.mk A210
            clear A210
            have H' := Aside0.mk H
            clear H
            go_wp2_with (first | ((with_reducible refine gate_callee (f := 107) rfl ?_);refine goesL_ (some 47) rfl rfl Tryz.func107 (by kernel_rfl) rfl #[.string (a0.extract 3 (t280 : Int).toNat),.int .i64 16,.int .i64 6] rfl (by (try simp only [List.map_toArray,List.map_cons,List.map_nil]);try rfl) ?_;(with_reducible refine (incipitref04_number.calls kj10 (a0.extract 3 (t280 : Int).toNat) 16 6 t283 _ A21.out).mono ?_);rintro e w' ⟨rfl,⟨nd,rfl⟩⟩;refine ⟨_,rfl,?_⟩))
            go_meet
            case rel => exact ⟨_,(t283),(by first | rfl | (simp;done) | (simp [*];done)),H',⟨by have := HJ2.out;have := HJ10.out;first | omega | exact Nat.le_refl _⟩,⟨by repeat (first | (with_reducible first | exact HB.out | apply below_alloc | apply pw_below_drewN | apply below_drew1) | exact HB.out)⟩⟩
           ·rw [if_neg c20] at H
            exact absurd H (by simp)
          ·rw [if_neg c19] at H
           exact absurd H (by simp)
         ·replace c18 := Bool.eq_false_iff.mpr c18
          subst c18
          have H1 : (if 2 ≤ t280 then (if t280 ≤ (a0.size : Int) then ((incipitref04_number.f kj10 (a0.extract 2 (t280 : Int).toNat) 10 7).bind fun t284 => (incipitref04_Read.j2 kj10 t280 t284)) else (none)) else (none)) = some (r1,r2) := by rw [if_neg (show ¬ (false = true) by decide)] at H;exact H
          clear H
          have H := H1
          clear H1
          by_cases c22 : 2 ≤ t280
          ·rw [if_pos c22] at H
           have c22b0 := eq_true c22
           have c22b1 : decide (2 ≤ t280) = true := decide_eq_true c22
           clear c22
           by_cases c23 : t280 ≤ (a0.size : Int)
           ·rw [if_pos c23] at H
            have c23b0 := eq_true c23
            have c23b1 : decide (t280 ≤ (a0.size : Int)) = true := decide_eq_true c23
            clear c23
            replace H := Option.bind_eq_some_iff.mp H
            obtain ⟨t284,A240,H⟩ := H
            (try dsimp only at H)
            have A24 := Aside0.mk A240
            clear A240
            have H' := Aside0.mk H
            clear H
            go_wp2_with (first | ((with_reducible refine gate_callee (f := 107) rfl ?_);refine goesL_ (some 51) rfl rfl Tryz.func107 (by kernel_rfl) rfl #[.string (a0.extract 2 (t280 : Int).toNat),.int .i64 10,.int .i64 7] rfl (by (try simp only [List.map_toArray,List.map_cons,List.map_nil]);try rfl) ?_;(with_reducible refine (incipitref04_number.calls kj10 (a0.extract 2 (t280 : Int).toNat) 10 7 t284 _ A24.out).mono ?_);rintro e w' ⟨rfl,⟨nd,rfl⟩⟩;refine ⟨_,rfl,?_⟩))
            go_meet
            case rel => exact ⟨_,(t284),(by first | rfl | (simp;done) | (simp [*];done)),H',⟨by have := HJ2.out;have := HJ10.out;first | omega | exact Nat.le_refl _⟩,⟨by repeat (first | (with_reducible first | exact HB.out | apply below_alloc | apply pw_below_drewN | apply below_drew1) | exact HB.out)⟩⟩
           ·rw [if_neg c23] at H
            exact absurd H (by simp)
          ·rw [if_neg c22] at H
           exact absurd H (by simp)
        case rest =>
         clear HC17
         try clear c1
         try clear p1
         try clear q1
         try clear hx1
         try clear qi1
         try clear c2
         try clear p2
         try clear c4
         try clear c4b0
         try clear c5
         try clear c5b0
         try clear c5b1
         try clear p6
         try clear q6
         try clear hx6
         try clear qi6
         try clear c7
         try clear c8
         try clear c8b0
         try clear c8b1
         try clear p9
         try clear q9
         try clear hx9
         try clear qi9
         try clear c10
         try clear c10b0
         try clear c10b1
         try clear c12
         try clear c12b0
         try clear c13
         try clear c13b0
         try clear c13b1
         try clear p14
         try clear q14
         try clear hx14
         try clear qi14
         try clear c15
         try clear c15b0
         try clear c15b1
         try clear p16
         try clear q16
         try clear hx16
         try clear qi16
         try clear c18
         try clear c19
         try clear c19b0
         try clear c19b1
         try clear c20
         try clear c20b0
         try clear c20b1
         try clear c22
         try clear c22b0
         try clear c22b1
         try clear c23
         try clear c23b0
         try clear c23b1
         try clear p1
         try clear p14
         try clear p16
         try clear p2
         try clear p6
         try clear p9
         try clear q1
         try clear q14
         try clear q16
         try clear q6
         try clear q9
         obtain ⟨kq,x5_16,rfl,HA,HJ16,HB⟩ := hcut
         cases kq with
         | zero => exact absurd HA.out (by simp [incipitref04_Read.j2])
         | succ kj16 =>
          have H := HA.out
          clear HA
          simp only [incipitref04_Read.j2] at H
          by_cases c25 : x5_16 < 0
          ·rw [if_pos c25] at H
           have c25b0 : decide (x5_16 < 0) = true := decide_eq_true c25
           clear c25
           simp only [Option.some.injEq,Prod.mk.injEq] at H
           obtain ⟨rfl,rfl⟩ := H
           go_wp2
           go_ret2
           exact ⟨by first | rfl | (simp [errW_none,errW_some] <;> rfl) | (simp [*,errW_none,errW_some] <;> rfl),by repeat (first | (with_reducible first | exact HB.out | apply below_alloc | apply pw_below_drewN | apply below_drew1) | exact HB.out)⟩
          ·rw [if_neg c25] at H
           have c25b0 : decide (x5_16 < 0) = false := decide_eq_false c25
           clear c25
           by_cases c26 : x5_16 = 0
           ·rw [if_pos c26] at H
            have c26b0 : (x5_16 == 0) = true := beq_iff_eq.mpr c26
            have c26b1 : (x5_16 != 0) = false := bne_eq_false_iff_eq.mpr c26
            clear c26
            simp only [Option.some.injEq,Prod.mk.injEq] at H
            obtain ⟨rfl,rfl⟩ := H
            go_wp2
            go_ret2
            exact ⟨by first | rfl | (simp [errW_none,errW_some] <;> rfl) | (simp [*,errW_none,errW_some] <;> rfl),by repeat (first | (with_reducible first | exact HB.out | apply below_alloc | apply pw_below_drewN | apply below_drew1) | exact HB.out)⟩
           ·rw [if_neg c26] at H
            have c26b0 : (x5_16 == 0) = false := beq_eq_false_iff_ne.mpr c26
            have c26b1 : (x5_16 != 0) = true := bne_iff_ne.mpr c26
            by_cases c27 : x5_16 ≥ 55296
            ·rw [if_pos c27] at H
             have c27b0 : decide (55296 ≤ x5_16) = true := decide_eq_true c27
             clear c27
             by_cases c28 : x5_16 ≤ 57343
             ·rw [if_pos c28] at H
              have c28b0 : decide (x5_16 ≤ 57343) = true := decide_eq_true c28
              clear c28
              simp only [Option.some.injEq,Prod.mk.injEq] at H
              obtain ⟨rfl,rfl⟩ := H
              go_wp2
              go_ret2
              exact ⟨by first | rfl | (simp [errW_none,errW_some] <;> rfl) | (simp [*,errW_none,errW_some] <;> rfl),by repeat (first | (with_reducible first | exact HB.out | apply below_alloc | apply pw_below_drewN | apply below_drew1) | exact HB.out)⟩
             ·rw [if_neg c28] at H
              have c28b0 : decide (x5_16 ≤ 57343) = false := decide_eq_false c28
              clear c28
              by_cases c29 : x5_16 > 1114111
              ·rw [if_pos c29] at H
               have c29b0 : decide (1114111 < x5_16) = true := decide_eq_true c29
               clear c29
               simp only [Option.some.injEq,Prod.mk.injEq] at H
               obtain ⟨rfl,rfl⟩ := H
               go_wp2
               go_ret2
               exact ⟨by first | rfl | (simp [errW_none,errW_some] <;> rfl) | (simp [*,errW_none,errW_some] <;> rfl),by repeat (first | (with_reducible first | exact HB.out | apply below_alloc | apply pw_below_drewN | apply below_drew1) | exact HB.out)⟩
              ·rw [if_neg c29] at H
               have c29b0 : decide (1114111 < x5_16) = false := decide_eq_false c29
               clear c29
               simp only [Option.some.injEq,Prod.mk.injEq] at H
               obtain ⟨rfl,rfl⟩ := H
               go_wp2
               go_ret2
               exact ⟨by first | rfl | (simp [errW_none,errW_some] <;> rfl) | (simp [*,errW_none,errW_some] <;> rfl),by repeat (first | (with_reducible first | exact HB.out | apply below_alloc | apply pw_below_drewN | apply below_drew1) | exact HB.out)⟩
            ·rw [if_neg c27] at H
             have c27b0 : decide (55296 ≤ x5_16) = false := decide_eq_false c27
             clear c27
             by_cases c30 : x5_16 > 1114111
             ·rw [if_pos c30] at H
              have c30b0 : decide (1114111 < x5_16) = true := decide_eq_true c30
              clear c30
              simp only [Option.some.injEq,Prod.mk.injEq] at H
              obtain ⟨rfl,rfl⟩ := H
              go_wp2
              go_ret2
              exact ⟨by first | rfl | (simp [errW_none,errW_some] <;> rfl) | (simp [*,errW_none,errW_some] <;> rfl),by repeat (first | (with_reducible first | exact HB.out | apply below_alloc | apply pw_below_drewN | apply below_drew1) | exact HB.out)⟩
             ·rw [if_neg c30] at H
              have c30b0 : decide (1114111 < x5_16) = false := decide_eq_false c30
              clear c30
              simp only [Option.some.injEq,Prod.mk.injEq] at H
              obtain ⟨rfl,rfl⟩ := H
              go_wp2
              go_ret2
              exact ⟨by first | rfl | (simp [errW_none,errW_some] <;> rfl) | (simp [*,errW_none,errW_some] <;> rfl),by repeat (first | (with_reducible first | exact HB.out | apply below_alloc | apply pw_below_drewN | apply below_drew1) | exact HB.out)⟩
     ·rw [if_neg c10] at H
      have c10b0 : ((bt a0 1) == 35) = false := beq_eq_false_iff_ne.mpr c10
      have c10b1 : ((bt a0 1) != 35) = true := bne_iff_ne.mpr c10
      by_cases c31 : 1 ≤ t280
      ·rw [if_pos c31] at H
       have c31b0 := eq_true c31
       have c31b1 : decide (1 ≤ t280) = true := decide_eq_true c31
       clear c31
       by_cases c32 : t280 ≤ (a0.size : Int)
       ·rw [if_pos c32] at H
        have c32b0 := eq_true c32
        have c32b1 : decide (t280 ≤ (a0.size : Int)) = true := decide_eq_true c32
        clear c32
        replace H := Option.bind_eq_some_iff.mp H
        obtain ⟨⟨t281,t282⟩,A330,H⟩ := H
        (try dsimp only at H)
        have A33 := Aside0.mk A330
        clear A330
        by_cases c34 : t282 = true
        ·subst c34
         have H1 : (some (t281,wrap64 (t280 + 1))) = some (r1,r2) := by rw [if_pos rfl] at H;exact H
         clear H
         have H := H1
         clear H1
         simp only [Option.some.injEq,Prod.mk.injEq] at H
         obtain ⟨rfl,rfl⟩ := H
         have p9 : 0 ≤ (1 : Int) := (by omega)
         have q9 : 1 < a0.size := (by have : (1 : Int) < (a0.size : Int) := of_decide_eq_true (by first | (with_reducible assumption) | assumption);omega)
         have hx9 : ∀ h : 1 < a0.size,((a0[1]'h).toNat : Int) = bt a0 1 := bt_at a0 1
         clear p9
         have qi9 : (1 < (a0.size : Int)) = True := eq_true (of_decide_eq_true (by first | (with_reducible assumption) | assumption))
         replace q9 := eq_true q9
         go_wp2_with (first | ((with_reducible refine gate_callee (f := 106) rfl ?_);refine goesL_ (some 24) rfl rfl Tryz.func106 (by kernel_rfl) rfl #[.string (a0.extract 1 (t280 : Int).toNat)] rfl (by (try simp only [List.map_toArray,List.map_cons,List.map_nil]);try rfl) ?_;(with_reducible refine (incipitref04_Named.calls kj2 (a0.extract 1 (t280 : Int).toNat) t281 true _ A33.out).mono ?_);rintro e w35 ⟨rfl,hb⟩;refine ⟨_,rfl,?_⟩;have n0_ := Aside0.mk (below_step HB.out hb);clear HB;have HB := n0_;clear n0_))
         go_ret2
         exact ⟨by first | rfl | (simp [errW_none,errW_some] <;> rfl) | (simp [*,errW_none,errW_some] <;> rfl),by repeat (first | (with_reducible first | exact HB.out | apply below_alloc | apply pw_below_drewN | apply below_drew1) | exact HB.out)⟩
        ·replace c34 := Bool.eq_false_iff.mpr c34
         subst c34
         have H1 : (some ((⟨#[]⟩ : ByteArray),0)) = some (r1,r2) := by rw [if_neg (show ¬ (false = true) by decide)] at H;exact H
         clear H
         have H := H1
         clear H1
         simp only [Option.some.injEq,Prod.mk.injEq] at H
         obtain ⟨rfl,rfl⟩ := H
         have p9 : 0 ≤ (1 : Int) := (by omega)
         have q9 : 1 < a0.size := (by have : (1 : Int) < (a0.size : Int) := of_decide_eq_true (by first | (with_reducible assumption) | assumption);omega)
         have hx9 : ∀ h : 1 < a0.size,((a0[1]'h).toNat : Int) = bt a0 1 := bt_at a0 1
         clear p9
         have qi9 : (1 < (a0.size : Int)) = True := eq_true (of_decide_eq_true (by first | (with_reducible assumption) | assumption))
         replace q9 := eq_true q9
         go_wp2_with (first | ((with_reducible refine gate_callee (f := 106) rfl ?_);refine goesL_ (some 24) rfl rfl Tryz.func106 (by kernel_rfl) rfl #[.string (a0.extract 1 (t280 : Int).toNat)] rfl (by (try simp only [List.map_toArray,List.map_cons,List.map_nil]);try rfl) ?_;(with_reducible refine (incipitref04_Named.calls kj2 (a0.extract 1 (t280 : Int).toNat) t281 false _ A33.out).mono ?_);rintro e w36 ⟨rfl,hb⟩;refine ⟨_,rfl,?_⟩;have n0_ := Aside0.mk (below_step HB.out hb);clear HB;have HB := n0_;clear n0_))
         go_ret2
         exact ⟨by first | rfl | (simp [errW_none,errW_some] <;> rfl) | (simp [*,errW_none,errW_some] <;> rfl),by repeat (first | (with_reducible first | exact HB.out | apply below_alloc | apply pw_below_drewN | apply below_drew1) | exact HB.out)⟩
       ·rw [if_neg c32] at H
        exact absurd H (by simp)
      ·rw [if_neg c31] at H
       exact absurd H (by simp)
    ·rw [if_neg c8] at H
     exact absurd H (by simp)

end Go.Proofs.YtekifcbokdidlaaGreatDoor.PA

namespace Go.Proofs.YtekifcbokdidlaaGreatDoor.PA
open Go.RowKit Go.Proofs.YtekifcbokdidlaaGreatDoorW.PrintWords Go.Proofs.YtekifcbokdidlaaGreatDoorW.PrintLast Go.Proofs.YtekifcbokdidlaaGreatDoorW.PrintMore
attribute [local go_sem] max2_int min2_int max_two min_two max_three min_three max_four min_four   -- for this text's walks alone
set_option linter.unusedVariables false
set_option linter.unusedSimpArgs false

/-! ### incipitref05_Unescape: function 59 -/
mutual
def incipitref05_Unescape.l0 : Nat → ByteArray → ByteArray → Option (ByteArray)
 | 0,_,_ => none
 | k + 1,x0,x3 => if (x0.size : Int) > 0 then (if 0 < (x0.size : Int) then (if (bt x0 0) = 92 then (if (x0.size : Int) > 1 then (if 1 < (x0.size : Int) then ((incipitref05_Sign.f (bt x0 1)).bind fun t285 => (incipitref05_Unescape.j1 k x0 x3 t285)) else (none)) else (incipitref05_Unescape.j1 k x0 x3 false)) else (incipitref05_Unescape.j1 k x0 x3 false)) else (none)) else (some x3)
def incipitref05_Unescape.j1 : Nat → ByteArray → ByteArray → Bool → Option (ByteArray)
 | 0,_,_,_ => none
 | k + 1,x0,x3,x21 => if x21 = true then (if 1 ≤ 2 then (if 2 ≤ (x0.size : Int) then (if x3.size + (x0.extract 1 2).size ≤ 9223372036854775807 then (incipitref05_Unescape.l0 k (x0.extract 2 x0.size) (x3 ++ (x0.extract 1 2))) else (none)) else (none)) else (none)) else ((incipitref04_Read.f k x0).bind fun bt286 => (if bt286.2 > 0 then (if x3.size + bt286.1.size ≤ 9223372036854775807 then (if 0 ≤ bt286.2 then (if bt286.2 ≤ (x0.size : Int) then (incipitref05_Unescape.l0 k (x0.extract (bt286.2 : Int).toNat x0.size) (x3 ++ bt286.1)) else (none)) else (none)) else (none)) else (if 0 ≤ 1 then (if 1 ≤ (x0.size : Int) then (if x3.size + (x0.extract 0 1).size ≤ 9223372036854775807 then (incipitref05_Unescape.l0 k (x0.extract 1 x0.size) (x3 ++ (x0.extract 0 1))) else (none)) else (none)) else (none))))
end
def incipitref05_Unescape.f (k : Nat) (a0 : ByteArray) : Option (ByteArray) := incipitref05_Unescape.l0 k a0 (⟨#[]⟩ : ByteArray)
set_option maxHeartbeats 8000000 in
set_option maxRecDepth 100000 in
theorem incipitref05_Unescape.calls (k : Nat) (a0 : ByteArray) (r : ByteArray) (w : World) (h : incipitref05_Unescape.f k a0 = some r) :
  Calls Tryz.prog 59 #[.string a0] w fun e w' => e = .returned (.string r) ∧ Below w.heap.size w w' := by
 have HB := Aside0.mk (Below.refl w.heap.size w)
 have H : (incipitref05_Unescape.l0 k a0 (⟨#[]⟩ : ByteArray)) = some r := h
 clear h
 have H' := Aside0.mk H
 clear H
 go_enter Tryz.func59,Tryz.ntmps59
 go_wp2
 go_loopg [0,3] k (fun kq v0 v3 w' => ∃ (x0_1 : ByteArray) (x3_1 : ByteArray),v0 = .string x0_1 ∧ v3 = .string x3_1 ∧ Aside0 (incipitref05_Unescape.l0 kq x0_1 x3_1 = some r) ∧ Aside0 (kq ≤ k) ∧ Aside0 (Below w.heap.size w w'))
 case atStart => exact ⟨(a0),((⟨#[]⟩ : ByteArray)),(by first | rfl | (simp;done) | (simp [*];done)),(by first | rfl | (simp;done) | (simp [*];done)),H',⟨Nat.le_refl _⟩,⟨by repeat (first | (with_reducible first | exact HB.out | apply below_alloc | apply pw_below_drewN | apply below_drew1) | exact HB.out)⟩⟩
 case round =>
  clear H'
  obtain ⟨x0_1,x3_1,rfl,rfl,HA,HK1,HB⟩ := hrel
  cases gk with
  | zero => exact absurd HA.out (by simp [incipitref05_Unescape.l0])
  | succ k1 =>
   have H := HA.out
   clear HA
   simp only [incipitref05_Unescape.l0] at H
   by_cases c2 : (x0_1.size : Int) > 0
   ·rw [if_pos c2] at H
    have c2b0 : decide (0 < (x0_1.size : Int)) = true := decide_eq_true c2
    have c2b1 : decide (0 < x0_1.size) = true := decide_eq_true (by omega)
    clear c2
    have HC3 := Aside0.mk H
    clear H
    go_upto_region 3 with (fail)
    go_cut [21] (fun v21 wc => ∃ (kq : Nat) (x21_2 : Bool),v21 = .bool x21_2 ∧ Aside0 (incipitref05_Unescape.j1 kq x0_1 x3_1 x21_2 = some r) ∧ Aside0 (kq ≤ k1) ∧ Aside0 (Below w.heap.size w wc))
    case first =>
     have H := HC3.out
     clear HC3
     by_cases c4 : 0 < (x0_1.size : Int)
     ·rw [if_pos c4] at H
      have c4b0 : decide (0 < (x0_1.size : Int)) = true := decide_eq_true c4
      have c4b1 : decide (0 < x0_1.size) = true := decide_eq_true (by omega)
      clear c4
      (first | rw [c4b0] | (simp only [i64_w,i32_w];rw [c4b0]) | skip)
      by_cases c6 : (bt x0_1 0) = 92
      ·rw [if_pos c6] at H
       have c6b0 : ((bt x0_1 0) == 92) = true := beq_iff_eq.mpr c6
       have c6b1 : ((bt x0_1 0) != 92) = false := bne_eq_false_iff_eq.mpr c6
       clear c6
       by_cases c7 : (x0_1.size : Int) > 1
       ·rw [if_pos c7] at H
        have c7b0 : decide (1 < (x0_1.size : Int)) = true := decide_eq_true c7
        have c7b1 : decide (1 < x0_1.size) = true := decide_eq_true (by omega)
        clear c7
        by_cases c8 : 1 < (x0_1.size : Int)
        ·rw [if_pos c8] at H
         have c8b0 : decide (1 < (x0_1.size : Int)) = true := decide_eq_true c8
         have c8b1 : decide (1 < x0_1.size) = true := decide_eq_true (by omega)
         clear c8
         replace H := Option.bind_eq_some_iff.mp H
         obtain ⟨t285,A100,H⟩ := H
         (try dsimp only at H)
         have A10 := Aside0.mk A100
         clear A100
         have H' := Aside0.mk H
         clear H
         have p5 : 0 ≤ (0 : Int) := (by omega)
         have q5 : 0 < x0_1.size := (by have : (0 : Int) < (x0_1.size : Int) := of_decide_eq_true (by first | (with_reducible assumption) | assumption);omega)
         have hx5 : ∀ h : 0 < x0_1.size,((x0_1[0]'h).toNat : Int) = bt x0_1 0 := bt_at x0_1 0
         clear p5
         have qi5 : (0 < (x0_1.size : Int)) = True := eq_true (of_decide_eq_true (by first | (with_reducible assumption) | assumption))
         replace q5 := eq_true q5
         have p9 : 0 ≤ (1 : Int) := (by omega)
         have q9 : 1 < x0_1.size := (by have : (1 : Int) < (x0_1.size : Int) := of_decide_eq_true (by first | (with_reducible assumption) | assumption);omega)
         have hx9 : ∀ h : 1 < x0_1.size,((x0_1[1]'h).toNat : Int) = bt x0_1 1 := bt_at x0_1 1
         clear p9
         have qi9 : (1 < (x0_1.size : Int)) = True := eq_true (of_decide_eq_true (by first | (with_reducible assumption) | assumption))
         replace q9 := eq_true q9
         go_wp2_with (first | (go_at_call 85;(with_reducible refine (incipitref05_Sign.calls (bt x0_1 1) t285 _ A10.out).mono ?_);rintro e w' ⟨rfl,⟨nd,rfl⟩⟩))
         go_meet
         case rel => exact ⟨_,(t285),(by first | rfl | (simp;done) | (simp [*];done)),H',⟨by have := HK1.out;first | omega | exact Nat.le_refl _⟩,⟨by repeat (first | (with_reducible first | exact HB.out | apply below_alloc | apply pw_below_drewN | apply below_drew1) | exact HB.out)⟩⟩
        ·rw [if_neg c8] at H
         exact absurd H (by simp)
       ·rw [if_neg c7] at H
        have c7b0 : decide (1 < (x0_1.size : Int)) = false := decide_eq_false c7
        have c7b1 : decide (1 < x0_1.size) = false := decide_eq_false (by omega)
        clear c7
        have H' := Aside0.mk H
        clear H
        have p5 : 0 ≤ (0 : Int) := (by omega)
        have q5 : 0 < x0_1.size := (by have : (0 : Int) < (x0_1.size : Int) := of_decide_eq_true (by first | (with_reducible assumption) | assumption);omega)
        have hx5 : ∀ h : 0 < x0_1.size,((x0_1[0]'h).toNat : Int) = bt x0_1 0 := bt_at x0_1 0
        clear p5
        have qi5 : (0 < (x0_1.size : Int)) = True := eq_true (of_decide_eq_true (by first | (with_reducible assumption) | assumption))
        replace q5 := eq_true q5
        go_wp2
        go_meet
        case rel => exact ⟨_,(false),(by first | rfl | (simp;done) | (simp [*];done)),H',⟨by have := HK1.out;first | omega | exact Nat.le_refl _⟩,⟨by repeat (first | (with_reducible first | exact HB.out | apply below_alloc | apply pw_below_drewN | apply below_drew1) | exact HB.out)⟩⟩
      ·rw [if_neg c6] at H
       have c6b0 : ((bt x0_1 0) == 92) = false := beq_eq_false_iff_ne.mpr c6
       have c6b1 : ((bt x0_1 0) != 92) = true := bne_iff_ne.mpr c6
       have H' := Aside0.mk H
       clear H
       have p5 : 0 ≤ (0 : Int) := (by omega)
       have q5 : 0 < x0_1.size := (by have : (0 : Int) < (x0_1.size : Int) := of_decide_eq_true (by first | (with_reducible assumption) | assumption);omega)
       have hx5 : ∀ h : 0 < x0_1.size,((x0_1[0]'h).toNat : Int) = bt x0_1 0 := bt_at x0_1 0
       clear p5
       have qi5 : (0 < (x0_1.size : Int)) = True := eq_true (of_decide_eq_true (by first | (with_reducible assumption) | assumption))
       replace q5 := eq_true q5
       go_wp2
       go_meet
       case rel => exact ⟨_,(false),(by first | rfl | (simp;done) | (simp [*];done)),H',⟨by have := HK1.out;first | omega | exact Nat.le_refl _⟩,⟨by repeat (first | (with_reducible first | exact HB.out | apply below_alloc | apply pw_below_drewN | apply below_drew1) | exact HB.out)⟩⟩
     ·rw [if_neg c4] at H
      exact absurd H (by simp)
    case rest =>
     clear HC3
     try clear c2
     try clear c2b0
     try clear c2b1
     try clear p2
     try clear c4
     try clear c4b0
     try clear c4b1
     try clear c5
     try clear p5
     try clear q5
     try clear hx5
     try clear qi5
     try clear c6
     try clear c6b0
     try clear c6b1
     try clear c7
     try clear c7b0
     try clear c7b1
     try clear c8
     try clear c8b0
     try clear c8b1
     try clear p9
     try clear q9
     try clear hx9
     try clear qi9
     try clear p5
     try clear p9
     try clear q5
     try clear q9
     obtain ⟨kq,x21_2,rfl,HA,HJ2,HB⟩ := hcut
     cases kq with
     | zero => exact absurd HA.out (by simp [incipitref05_Unescape.j1])
     | succ kj2 =>
      have H := HA.out
      clear HA
      simp only [incipitref05_Unescape.j1] at H
      by_cases c11 : x21_2 = true
      ·subst c11
       have H1 : (if 1 ≤ 2 then (if 2 ≤ (x0_1.size : Int) then (if x3_1.size + (x0_1.extract 1 2).size ≤ 9223372036854775807 then (incipitref05_Unescape.l0 kj2 (x0_1.extract 2 x0_1.size) (x3_1 ++ (x0_1.extract 1 2))) else (none)) else (none)) else (none)) = some r := by rw [if_pos rfl] at H;exact H
       clear H
       have H := H1
       clear H1
       by_cases c12 : 1 ≤ 2
       ·rw [if_pos c12] at H
        have c12b0 := eq_true c12
        have c12b1 : decide (1 ≤ 2) = true := decide_eq_true c12
        clear c12
        by_cases c13 : 2 ≤ (x0_1.size : Int)
        ·rw [if_pos c13] at H
         have c13b0 := eq_true c13
         have c13b1 : decide (2 ≤ (x0_1.size : Int)) = true := decide_eq_true c13
         clear c13
         by_cases c14 : x3_1.size + (x0_1.extract 1 2).size ≤ 9223372036854775807
         ·rw [if_pos c14] at H
          have c14b0 := eq_true c14
          have c14b1 : decide (x3_1.size + (x0_1.extract 1 2).size ≤ 9223372036854775807) = true := decide_eq_true c14
          have c14b4 := c14
          (try simp only [ByteArray.size_append,ByteArray.size_extract,Nat.min_self] at c14b4)
          (try have c14b5 := Nat.not_lt.2 c14b4)
          (try have c14b7 : ¬ 9223372036854775807 < x3_1.size + (x0_1.extract 1 2).size := by have hh := c14;simp only [ByteArray.size_append] at hh;exact Nat.not_lt.2 hh)
          (try have c14b9 : ¬ 9223372036854775807 < x3_1.size + (min 2 x0_1.size - 1) := by have hh := c14;simp only [ByteArray.size_append,ByteArray.size_extract,Nat.min_self] at hh;first | exact Nat.not_lt.2 hh | (have hh2 := hh;simp only [ByteArray.size] at hh2 ⊢;omega))
          try have c14b2 : (9223372036854775807 < x3_1.size + (x0_1.extract 1 2).size) = False := eq_false (Nat.not_lt.2 c14)
          have c15b0 := eq_true (of_decide_eq_true (by first | (with_reducible assumption) | assumption) : 2 ≤ (x0_1.size : Int))
          have H' := Aside0.mk H
          clear H
          go_wp2
          go_roundg kj2
          case measure => have := HK1.out;have := HJ2.out;omega
          case rel => exact ⟨(x0_1.extract 2 x0_1.size),(x3_1 ++ (x0_1.extract 1 2)),(by first | rfl | (simp;done) | (simp [*];done)),(by first | rfl | (simp;done) | (simp [*];done)),H',⟨by have := HK1.out;have := HJ2.out;omega⟩,⟨by repeat (first | (with_reducible first | exact HB.out | apply below_alloc | apply pw_below_drewN | apply below_drew1) | exact HB.out)⟩⟩
         ·rw [if_neg c14] at H
          exact absurd H (by simp)
        ·rw [if_neg c13] at H
         exact absurd H (by simp)
       ·rw [if_neg c12] at H
        exact absurd H (by simp)
      ·replace c11 := Bool.eq_false_iff.mpr c11
       subst c11
       have H1 : ((incipitref04_Read.f kj2 x0_1).bind fun bt286 => (if bt286.2 > 0 then (if x3_1.size + bt286.1.size ≤ 9223372036854775807 then (if 0 ≤ bt286.2 then (if bt286.2 ≤ (x0_1.size : Int) then (incipitref05_Unescape.l0 kj2 (x0_1.extract (bt286.2 : Int).toNat x0_1.size) (x3_1 ++ bt286.1)) else (none)) else (none)) else (none)) else (if 0 ≤ 1 then (if 1 ≤ (x0_1.size : Int) then (if x3_1.size + (x0_1.extract 0 1).size ≤ 9223372036854775807 then (incipitref05_Unescape.l0 kj2 (x0_1.extract 1 x0_1.size) (x3_1 ++ (x0_1.extract 0 1))) else (none)) else (none)) else (none)))) = some r := by rw [if_neg (show ¬ (false = true) by decide)] at H;exact H
       clear H
       have H := H1
       clear H1
       replace H := Option.bind_eq_some_iff.mp H
       obtain ⟨⟨t286,t287⟩,A160,H⟩ := H
       (try dsimp only at H)
       have A16 := Aside0.mk A160
       clear A160
       by_cases c17 : t287 > 0
       ·rw [if_pos c17] at H
        have c17b0 : decide (0 < t287) = true := decide_eq_true c17
        clear c17
        by_cases c18 : x3_1.size + t286.size ≤ 9223372036854775807
        ·rw [if_pos c18] at H
         have c18b0 := eq_true c18
         have c18b1 : decide (x3_1.size + t286.size ≤ 9223372036854775807) = true := decide_eq_true c18
         try have c18b2 : (9223372036854775807 < x3_1.size + t286.size) = False := eq_false (Nat.not_lt.2 c18)
         by_cases c19 : 0 ≤ t287
         ·rw [if_pos c19] at H
          have c19b0 := eq_true c19
          have c19b1 : decide (0 ≤ t287) = true := decide_eq_true c19
          clear c19
          by_cases c20 : t287 ≤ (x0_1.size : Int)
          ·rw [if_pos c20] at H
           have c20b0 := eq_true c20
           have c20b1 : decide (t287 ≤ (x0_1.size : Int)) = true := decide_eq_true c20
           clear c20
           have H' := Aside0.mk H
           clear H
           go_wp2_with (first | ((with_reducible refine gate_callee (f := 87) rfl ?_);refine goesL_ (some 30) rfl rfl Tryz.func87 (by kernel_rfl) rfl #[.string x0_1] rfl (by (try simp only [List.map_toArray,List.map_cons,List.map_nil]);try rfl) ?_;(with_reducible refine (incipitref04_Read.calls kj2 x0_1 t286 t287 _ A16.out).mono ?_);rintro e w21 ⟨rfl,hb⟩;refine ⟨_,rfl,?_⟩;have n0_ := Aside0.mk (below_step HB.out hb);clear HB;have HB := n0_;clear n0_))
           go_roundg kj2
           case measure => have := HK1.out;have := HJ2.out;omega
           case rel => exact ⟨(x0_1.extract (t287 : Int).toNat x0_1.size),(x3_1 ++ t286),(by first | rfl | (simp;done) | (simp [*];done)),(by first | rfl | (simp;done) | (simp [*];done)),H',⟨by have := HK1.out;have := HJ2.out;omega⟩,⟨by repeat (first | (with_reducible first | exact HB.out | apply below_alloc | apply pw_below_drewN | apply below_drew1) | exact HB.out)⟩⟩
          ·rw [if_neg c20] at H
           exact absurd H (by simp)
         ·rw [if_neg c19] at H
          exact absurd H (by simp)
        ·rw [if_neg c18] at H
         exact absurd H (by simp)
       ·rw [if_neg c17] at H
        have c17b0 : decide (0 < t287) = false := decide_eq_false c17
        clear c17
        by_cases c22 : 0 ≤ 1
        ·rw [if_pos c22] at H
         have c22b0 := eq_true c22
         have c22b1 : decide (0 ≤ 1) = true := decide_eq_true c22
         clear c22
         by_cases c23 : 1 ≤ (x0_1.size : Int)
         ·rw [if_pos c23] at H
          have c23b0 := eq_true c23
          have c23b1 : decide (1 ≤ (x0_1.size : Int)) = true := decide_eq_true c23
          clear c23
          by_cases c24 : x3_1.size + (x0_1.extract 0 1).size ≤ 9223372036854775807
          ·rw [if_pos c24] at H
           have c24b0 := eq_true c24
           have c24b1 : decide (x3_1.size + (x0_1.extract 0 1).size ≤ 9223372036854775807) = true := decide_eq_true c24
           have c24b4 := c24
           (try simp only [ByteArray.size_append,ByteArray.size_extract,Nat.min_self] at c24b4)
           (try have c24b5 := Nat.not_lt.2 c24b4)
           (try have c24b7 : ¬ 9223372036854775807 < x3_1.size + (x0_1.extract 0 1).size := by have hh := c24;simp only [ByteArray.size_append] at hh;exact Nat.not_lt.2 hh)
           (try have c24b9 : ¬ 9223372036854775807 < x3_1.size + min 1 x0_1.size := by have hh := c24;simp only [ByteArray.size_append,ByteArray.size_extract,Nat.min_self] at hh;first | exact Nat.not_lt.2 hh | (have hh2 := hh;simp only [ByteArray.size] at hh2 ⊢;omega))
           try have c24b2 : (9223372036854775807 < x3_1.size + (x0_1.extract 0 1).size) = False := eq_false (Nat.not_lt.2 c24)
           have c25b0 := eq_true (of_decide_eq_true (by first | (with_reducible assumption) | assumption) : 1 ≤ (x0_1.size : Int))
           have H' := Aside0.mk H
           clear H
           go_wp2_with (first | ((with_reducible refine gate_callee (f := 87) rfl ?_);refine goesL_ (some 30) rfl rfl Tryz.func87 (by kernel_rfl) rfl #[.string x0_1] rfl (by (try simp only [List.map_toArray,List.map_cons,List.map_nil]);try rfl) ?_;(with_reducible refine (incipitref04_Read.calls kj2 x0_1 t286 t287 _ A16.out).mono ?_);rintro e w26 ⟨rfl,hb⟩;refine ⟨_,rfl,?_⟩;have n0_ := Aside0.mk (below_step HB.out hb);clear HB;have HB := n0_;clear n0_))
           go_roundg kj2
           case measure => have := HK1.out;have := HJ2.out;omega
           case rel => exact ⟨(x0_1.extract 1 x0_1.size),(x3_1 ++ (x0_1.extract 0 1)),(by first | rfl | (simp;done) | (simp [*];done)),(by first | rfl | (simp;done) | (simp [*];done)),H',⟨by have := HK1.out;have := HJ2.out;omega⟩,⟨by repeat (first | (with_reducible first | exact HB.out | apply below_alloc | apply pw_below_drewN | apply below_drew1) | exact HB.out)⟩⟩
          ·rw [if_neg c24] at H
           exact absurd H (by simp)
         ·rw [if_neg c23] at H
          exact absurd H (by simp)
        ·rw [if_neg c22] at H
         exact absurd H (by simp)
   ·rw [if_neg c2] at H
    have c2b0 : decide (0 < (x0_1.size : Int)) = false := decide_eq_false c2
    have c2b1 : decide (0 < x0_1.size) = false := decide_eq_false (by omega)
    clear c2
    obtain rfl := Option.some.inj H
    go_wp2
    go_ret
    exact ⟨by first | rfl | (simp [errW_none,errW_some] <;> rfl) | (simp [*,errW_none,errW_some] <;> rfl),by repeat (first | (with_reducible first | exact HB.out | apply below_alloc | apply pw_below_drewN | apply below_drew1) | exact HB.out)⟩

/-! ### incipitref09_angled: function 58 -/
mutual
def incipitref09_angled.l0 : Nat → ByteArray → List Bool → Int → Option (ByteArray × Int × Bool)
 | 0,_,_,_ => none
 | k + 1,x0,x5,x6 => if x6 < (x0.size : Int) then (if 0 ≤ x6 then (if (bt x0 x6) = 10 then (incipitref09_angled.j1 k x0 x5 x6 true) else (if (bt x0 x6) = 60 then (if x6 < (x5.length : Int) then (incipitref09_angled.j1 k x0 x5 x6 (!(rdOf false x5 x6))) else (none)) else (incipitref09_angled.j1 k x0 x5 x6 false))) else (none)) else (some ((⟨#[]⟩ : ByteArray),0,false))
def incipitref09_angled.j1 : Nat → ByteArray → List Bool → Int → Bool → Option (ByteArray × Int × Bool)
 | 0,_,_,_,_ => none
 | k + 1,x0,x5,x6,x31 => if x31 = true then (some ((⟨#[]⟩ : ByteArray),0,false)) else (if 0 ≤ x6 then (if x6 < (x0.size : Int) then (if (bt x0 x6) = 62 then (if x6 < (x5.length : Int) then (if rdOf false x5 x6 = true then (incipitref09_angled.l0 k x0 x5 (wrap64 (x6 + 1))) else (if 1 ≤ x6 then (if x6 ≤ (x0.size : Int) then ((incipitref05_Unescape.f k (x0.extract 1 (x6 : Int).toNat)).bind fun t293 => (some (t293,wrap64 (x6 + 1),true))) else (none)) else (none))) else (none)) else (incipitref09_angled.l0 k x0 x5 (wrap64 (x6 + 1)))) else (none)) else (none))
end
def incipitref09_angled.f (k : Nat) (a0 : ByteArray) : Option (ByteArray × Int × Bool) := (incipitref09_marks.f k a0).bind fun t288 => (incipitref09_angled.l0 k a0 t288 1)
set_option maxHeartbeats 8000000 in
set_option maxRecDepth 100000 in
theorem incipitref09_angled.calls (k : Nat) (a0 : ByteArray) (r1 : ByteArray) (r2 : Int) (r3 : Bool) (w : World) (h : incipitref09_angled.f k a0 = some (r1,r2,r3)) :
  Calls Tryz.prog 58 #[.string a0] w fun e w' => e = .returned (.tuple #[.string r1,.int .i64 r2,.bool r3]) ∧ Below w.heap.size w w' := by
 have HB := Aside0.mk (Below.refl w.heap.size w)
 have H : ((incipitref09_marks.f k a0).bind fun t288 => (incipitref09_angled.l0 k a0 t288 1)) = some (r1,r2,r3) := h
 clear h
 replace H := Option.bind_eq_some_iff.mp H
 obtain ⟨t288,A20,H⟩ := H
 (try dsimp only at H)
 have A2 := Aside0.mk A20
 clear A20
 have H' := Aside0.mk H
 clear H
 go_enter Tryz.func58,Tryz.ntmps58
 go_wp2_with (first | ((with_reducible refine gate_callee (f := 55) rfl ?_);refine goesL_ (some 8) rfl rfl Tryz.func55 (by kernel_rfl) rfl #[.string a0] rfl (by (try simp only [List.map_toArray,List.map_cons,List.map_nil]);try rfl) ?_;(with_reducible refine (incipitref09_marks.calls k a0 t288 _ A2.out).mono ?_);rintro e w3 ⟨v289,rfl,ho0,hb⟩;refine ⟨_,rfl,?_⟩;have n0_ := Aside0.mk (Kd.R_lower ho0 (below_size HB.out));have n1_ := Aside0.mk (below_step HB.out hb);clear HB;have HO290 := n0_;have HB := n1_;clear n0_ n1_;(try clear ho0)))
 go_loopg [6] k (fun kq v6 w' => ∃ (x6_1 : Int),v6 = .int .i64 x6_1 ∧ Aside0 (incipitref09_angled.l0 kq a0 t288 x6_1 = some (r1,r2,r3)) ∧ Aside0 (kq ≤ k) ∧ Aside0 (Kd.R Kd.bool 4 w' w.heap.size (fun _ => True) v289 t288) ∧ Aside0 (Below w.heap.size w w'))
 case atStart => exact ⟨(1),(by first | rfl | (simp;done) | (simp [*];done)),H',⟨Nat.le_refl _⟩,⟨by (with_reducible repeat (first | apply Kd.R_alloc | apply Kd.R_drewN | apply Kd.R_drew));exact HO290.out⟩,⟨by repeat (first | (with_reducible first | exact HB.out | apply below_alloc | apply pw_below_drewN | apply below_drew1) | exact HB.out)⟩⟩
 case round =>
  clear H'
  try clear p2
  obtain ⟨x6_1,rfl,HA,HK1,HO_5,HB⟩ := hrel
  cases gk with
  | zero => exact absurd HA.out (by simp [incipitref09_angled.l0])
  | succ k1 =>
   have H := HA.out
   clear HA
   simp only [incipitref09_angled.l0] at H
   by_cases c4 : x6_1 < (a0.size : Int)
   ·rw [if_pos c4] at H
    have c4b0 : decide (x6_1 < (a0.size : Int)) = true := decide_eq_true c4
    clear c4
    have HC5 := Aside0.mk H
    clear H
    go_upto_region 5 with (fail)
    go_cut [31] (fun v31 wc => ∃ (kq : Nat) (x31_4 : Bool),v31 = .bool x31_4 ∧ Aside0 (incipitref09_angled.j1 kq a0 t288 x6_1 x31_4 = some (r1,r2,r3)) ∧ Aside0 (kq ≤ k1) ∧ Aside0 (Kd.R Kd.bool 4 wc w.heap.size (fun _ => True) v289 t288) ∧ Aside0 (Below w.heap.size w wc))
    case first =>
     have H := HC5.out
     clear HC5
     by_cases c6 : 0 ≤ x6_1
     ·rw [if_pos c6] at H
      have c6b0 : decide (0 ≤ x6_1) = true := decide_eq_true c6
      clear c6
      (first | rw [c6b0] | (simp only [i64_w,i32_w];rw [c6b0]) | skip)
      by_cases c8 : (bt a0 x6_1) = 10
      ·rw [if_pos c8] at H
       have c8b0 : ((bt a0 x6_1) == 10) = true := beq_iff_eq.mpr c8
       have c8b1 : ((bt a0 x6_1) != 10) = false := bne_eq_false_iff_eq.mpr c8
       clear c8
       have H' := Aside0.mk H
       clear H
       have p7 : 0 ≤ (x6_1 : Int) := of_decide_eq_true (by first | (with_reducible assumption) | assumption)
       have q7 : x6_1 < (a0.size : Int) := of_decide_eq_true (by first | (with_reducible assumption) | assumption)
       have hx7 := bt_at a0 x6_1
       replace p7 := eq_true p7
       replace q7 := eq_true q7
       go_wp2
       go_meet
       case rel => exact ⟨_,(true),(by first | rfl | (simp;done) | (simp [*];done)),H',⟨by have := HK1.out;first | omega | exact Nat.le_refl _⟩,⟨by (with_reducible repeat (first | apply Kd.R_alloc | apply Kd.R_drewN | apply Kd.R_drew));exact HO_5.out⟩,⟨by repeat (first | (with_reducible first | exact HB.out | apply below_alloc | apply pw_below_drewN | apply below_drew1) | exact HB.out)⟩⟩
      ·rw [if_neg c8] at H
       have c8b0 : ((bt a0 x6_1) == 10) = false := beq_eq_false_iff_ne.mpr c8
       have c8b1 : ((bt a0 x6_1) != 10) = true := bne_iff_ne.mpr c8
       by_cases c10 : (bt a0 x6_1) = 60
       ·rw [if_pos c10] at H
        have c10b0 : ((bt a0 x6_1) == 60) = true := beq_iff_eq.mpr c10
        have c10b1 : ((bt a0 x6_1) != 60) = false := bne_eq_false_iff_eq.mpr c10
        clear c10
        by_cases c11 : x6_1 < (t288.length : Int)
        ·rw [if_pos c11] at H
         have c11b0 : decide (x6_1 < (t288.length : Int)) = true := decide_eq_true c11
         clear c11
         have H' := Aside0.mk H
         clear H
         have p7 : 0 ≤ (x6_1 : Int) := of_decide_eq_true (by first | (with_reducible assumption) | assumption)
         have q7 : x6_1 < (a0.size : Int) := of_decide_eq_true (by first | (with_reducible assumption) | assumption)
         have hx7 := bt_at a0 x6_1
         replace p7 := eq_true p7
         replace q7 := eq_true q7
         have p9 : 0 ≤ (x6_1 : Int) := of_decide_eq_true (by first | (with_reducible assumption) | assumption)
         have q9 : x6_1 < (a0.size : Int) := of_decide_eq_true (by first | (with_reducible assumption) | assumption)
         have hx9 := bt_at a0 x6_1
         replace p9 := eq_true p9
         replace q9 := eq_true q9
         obtain ⟨Ao12,co12,eo12⟩ := Kd.R_slice HO_5.out
         subst eo12
         have p291 : 0 ≤ (x6_1 : Int) := of_decide_eq_true (by first | (with_reducible assumption) | assumption)
         have q291 : x6_1 < (t288.length : Int) := of_decide_eq_true (by first | (with_reducible assumption) | assumption)
         obtain ⟨ad291,e291,hx291_0⟩ := Kd.at_bool (Kd.R_reads' HO_5.out).2.2 x6_1 p291 q291
         cases e291
         replace p291 := eq_true p291
         replace q291 := eq_true q291
         go_wp2
         go_meet
         case rel => exact ⟨_,(!(rdOf false t288 x6_1)),(by first | rfl | (simp;done) | (simp [*];done)),H',⟨by have := HK1.out;first | omega | exact Nat.le_refl _⟩,⟨by (with_reducible repeat (first | apply Kd.R_alloc | apply Kd.R_drewN | apply Kd.R_drew));exact HO_5.out⟩,⟨by repeat (first | (with_reducible first | exact HB.out | apply below_alloc | apply pw_below_drewN | apply below_drew1) | exact HB.out)⟩⟩
        ·rw [if_neg c11] at H
         exact absurd H (by simp)
       ·rw [if_neg c10] at H
        have c10b0 : ((bt a0 x6_1) == 60) = false := beq_eq_false_iff_ne.mpr c10
        have c10b1 : ((bt a0 x6_1) != 60) = true := bne_iff_ne.mpr c10
        have H' := Aside0.mk H
        clear H
        have p7 : 0 ≤ (x6_1 : Int) := of_decide_eq_true (by first | (with_reducible assumption) | assumption)
        have q7 : x6_1 < (a0.size : Int) := of_decide_eq_true (by first | (with_reducible assumption) | assumption)
        have hx7 := bt_at a0 x6_1
        replace p7 := eq_true p7
        replace q7 := eq_true q7
        have p9 : 0 ≤ (x6_1 : Int) := of_decide_eq_true (by first | (with_reducible assumption) | assumption)
        have q9 : x6_1 < (a0.size : Int) := of_decide_eq_true (by first | (with_reducible assumption) | assumption)
        have hx9 := bt_at a0 x6_1
        replace p9 := eq_true p9
        replace q9 := eq_true q9
        go_wp2
        go_meet
        case rel => exact ⟨_,(false),(by first | rfl | (simp;done) | (simp [*];done)),H',⟨by have := HK1.out;first | omega | exact Nat.le_refl _⟩,⟨by (with_reducible repeat (first | apply Kd.R_alloc | apply Kd.R_drewN | apply Kd.R_drew));exact HO_5.out⟩,⟨by repeat (first | (with_reducible first | exact HB.out | apply below_alloc | apply pw_below_drewN | apply below_drew1) | exact HB.out)⟩⟩
     ·rw [if_neg c6] at H
      exact absurd H (by simp)
    case rest =>
     clear HC5
     try clear c1
     try clear p2
     try clear q2
     try clear hx2
     try clear c4
     try clear c4b0
     try clear c5
     try clear c6
     try clear c6b0
     try clear p7
     try clear q7
     try clear hx7
     try clear c8
     try clear c8b0
     try clear c8b1
     try clear p9
     try clear q9
     try clear hx9
     try clear c10
     try clear c10b0
     try clear c10b1
     try clear c11
     try clear c11b0
     try clear hx291_0
     try clear p2
     try clear p291
     try clear p7
     try clear p9
     try clear q291
     try clear q7
     try clear q9
     obtain ⟨kq,x31_4,rfl,HA,HJ4,HO_5,HB⟩ := hcut
     cases kq with
     | zero => exact absurd HA.out (by simp [incipitref09_angled.j1])
     | succ kj4 =>
      have H := HA.out
      clear HA
      simp only [incipitref09_angled.j1] at H
      by_cases c13 : x31_4 = true
      ·subst c13
       have H1 : (some ((⟨#[]⟩ : ByteArray),0,false)) = some (r1,r2,r3) := by rw [if_pos rfl] at H;exact H
       clear H
       have H := H1
       clear H1
       simp only [Option.some.injEq,Prod.mk.injEq] at H
       obtain ⟨rfl,rfl,rfl⟩ := H
       go_wp2
       go_ret3
       exact ⟨by first | rfl | (simp [errW_none,errW_some] <;> rfl) | (simp [*,errW_none,errW_some] <;> rfl),by repeat (first | (with_reducible first | exact HB.out | apply below_alloc | apply pw_below_drewN | apply below_drew1) | exact HB.out)⟩
      ·replace c13 := Bool.eq_false_iff.mpr c13
       subst c13
       have H1 : (if 0 ≤ x6_1 then (if x6_1 < (a0.size : Int) then (if (bt a0 x6_1) = 62 then (if x6_1 < (t288.length : Int) then (if rdOf false t288 x6_1 = true then (incipitref09_angled.l0 kj4 a0 t288 (wrap64 (x6_1 + 1))) else (if 1 ≤ x6_1 then (if x6_1 ≤ (a0.size : Int) then ((incipitref05_Unescape.f kj4 (a0.extract 1 (x6_1 : Int).toNat)).bind fun t293 => (some (t293,wrap64 (x6_1 + 1),true))) else (none)) else (none))) else (none)) else (incipitref09_angled.l0 kj4 a0 t288 (wrap64 (x6_1 + 1)))) else (none)) else (none)) = some (r1,r2,r3) := by rw [if_neg (show ¬ (false = true) by decide)] at H;exact H
       clear H
       have H := H1
       clear H1
       by_cases c14 : 0 ≤ x6_1
       ·rw [if_pos c14] at H
        have c14b0 : decide (0 ≤ x6_1) = true := decide_eq_true c14
        clear c14
        by_cases c15 : x6_1 < (a0.size : Int)
        ·rw [if_pos c15] at H
         have c15b0 : decide (x6_1 < (a0.size : Int)) = true := decide_eq_true c15
         clear c15
         by_cases c17 : (bt a0 x6_1) = 62
         ·rw [if_pos c17] at H
          have c17b0 : ((bt a0 x6_1) == 62) = true := beq_iff_eq.mpr c17
          have c17b1 : ((bt a0 x6_1) != 62) = false := bne_eq_false_iff_eq.mpr c17
          clear c17
          by_cases c18 : x6_1 < (t288.length : Int)
          ·rw [if_pos c18] at H
           have c18b0 : decide (x6_1 < (t288.length : Int)) = true := decide_eq_true c18
           clear c18
           obtain ⟨bq19,hbq19⟩ : ∃ b_ : Bool,b_ = (rdOf false t288 x6_1) := ⟨_,rfl⟩
           replace H : (if bq19 = true then (incipitref09_angled.l0 kj4 a0 t288 (wrap64 (x6_1 + 1))) else (if 1 ≤ x6_1 then (if x6_1 ≤ (a0.size : Int) then ((incipitref05_Unescape.f kj4 (a0.extract 1 (x6_1 : Int).toNat)).bind fun t293 => (some (t293,wrap64 (x6_1 + 1),true))) else (none)) else (none))) = some (r1,r2,r3) := by rw [← hbq19] at H;exact H
           have Nbq19 := Aside0.mk hbq19
           clear hbq19
           by_cases c20 : bq19 = true
           ·subst c20
            have H1 : (incipitref09_angled.l0 kj4 a0 t288 (wrap64 (x6_1 + 1))) = some (r1,r2,r3) := by rw [if_pos rfl] at H;exact H
            clear H
            have H := H1
            clear H1
            have H' := Aside0.mk H
            clear H
            have p16 : 0 ≤ (x6_1 : Int) := of_decide_eq_true (by first | (with_reducible assumption) | assumption)
            have q16 : x6_1 < (a0.size : Int) := of_decide_eq_true (by first | (with_reducible assumption) | assumption)
            have hx16 := bt_at a0 x6_1
            replace p16 := eq_true p16
            replace q16 := eq_true q16
            obtain ⟨Ao21,co21,eo21⟩ := Kd.R_slice HO_5.out
            subst eo21
            have p292 : 0 ≤ (x6_1 : Int) := of_decide_eq_true (by first | (with_reducible assumption) | assumption)
            have q292 : x6_1 < (t288.length : Int) := of_decide_eq_true (by first | (with_reducible assumption) | assumption)
            obtain ⟨ad292,e292,hx292_0⟩ := Kd.at_bool (Kd.R_reads' HO_5.out).2.2 x6_1 p292 q292
            (try rw [← Nbq19.out] at hx292_0)
            cases e292
            replace p292 := eq_true p292
            replace q292 := eq_true q292
            go_wp2
            go_roundg kj4
            case measure => have := HK1.out;have := HJ4.out;omega
            case rel => exact ⟨(wrap64 (x6_1 + 1)),(by first | rfl | (simp;done) | (simp [*];done)),H',⟨by have := HK1.out;have := HJ4.out;omega⟩,⟨by (with_reducible repeat (first | apply Kd.R_alloc | apply Kd.R_drewN | apply Kd.R_drew));exact HO_5.out⟩,⟨by repeat (first | (with_reducible first | exact HB.out | apply below_alloc | apply pw_below_drewN | apply below_drew1) | exact HB.out)⟩⟩
           ·replace c20 := Bool.eq_false_iff.mpr c20
            subst c20
            have H1 : (if 1 ≤ x6_1 then (if x6_1 ≤ (a0.size : Int) then ((incipitref05_Unescape.f kj4 (a0.extract 1 (x6_1 : Int).toNat)).bind fun t293 => (some (t293,wrap64 (x6_1 + 1),true))) else (none)) else (none)) = some (r1,r2,r3) := by rw [if_neg (show ¬ (false = true) by decide)] at H;exact H
            clear H
            have H := H1
            clear H1
            by_cases c22 : 1 ≤ x6_1
            ·rw [if_pos c22] at H
             have c22b0 := eq_true c22
             have c22b1 : decide (1 ≤ x6_1) = true := decide_eq_true c22
             clear c22
             by_cases c23 : x6_1 ≤ (a0.size : Int)
             ·rw [if_pos c23] at H
              have c23b0 := eq_true c23
              have c23b1 : decide (x6_1 ≤ (a0.size : Int)) = true := decide_eq_true c23
              clear c23
              replace H := Option.bind_eq_some_iff.mp H
              obtain ⟨t293,A240,H⟩ := H
              (try dsimp only at H)
              have A24 := Aside0.mk A240
              clear A240
              simp only [Option.some.injEq,Prod.mk.injEq] at H
              obtain ⟨rfl,rfl,rfl⟩ := H
              have p16 : 0 ≤ (x6_1 : Int) := of_decide_eq_true (by first | (with_reducible assumption) | assumption)
              have q16 : x6_1 < (a0.size : Int) := of_decide_eq_true (by first | (with_reducible assumption) | assumption)
              have hx16 := bt_at a0 x6_1
              replace p16 := eq_true p16
              replace q16 := eq_true q16
              obtain ⟨Ao25,co25,eo25⟩ := Kd.R_slice HO_5.out
              subst eo25
              have p292 : 0 ≤ (x6_1 : Int) := of_decide_eq_true (by first | (with_reducible assumption) | assumption)
              have q292 : x6_1 < (t288.length : Int) := of_decide_eq_true (by first | (with_reducible assumption) | assumption)
              obtain ⟨ad292,e292,hx292_0⟩ := Kd.at_bool (Kd.R_reads' HO_5.out).2.2 x6_1 p292 q292
              (try rw [← Nbq19.out] at hx292_0)
              cases e292
              replace p292 := eq_true p292
              replace q292 := eq_true q292
              go_wp2_with (first | ((with_reducible refine gate_callee (f := 59) rfl ?_);refine goesL_ (some 46) rfl rfl Tryz.func59 (by kernel_rfl) rfl #[.string (a0.extract 1 (x6_1 : Int).toNat)] rfl (by (try simp only [List.map_toArray,List.map_cons,List.map_nil]);try rfl) ?_;(with_reducible refine (incipitref05_Unescape.calls kj4 (a0.extract 1 (x6_1 : Int).toNat) t293 _ A24.out).mono ?_);rintro e w26 ⟨rfl,hb⟩;refine ⟨_,rfl,?_⟩;have n0_ := Aside0.mk (Kd.R_below (by (with_reducible repeat (first | apply Kd.R_alloc | apply Kd.R_drewN | apply Kd.R_drew));exact HO_5.out) hb);have n1_ := Aside0.mk (below_step HB.out hb);clear HO_5;clear HB;have HO_5 := n0_;have HB := n1_;clear n0_ n1_))
              go_ret3
              exact ⟨by first | rfl | (simp [errW_none,errW_some] <;> rfl) | (simp [*,errW_none,errW_some] <;> rfl),by repeat (first | (with_reducible first | exact HB.out | apply below_alloc | apply pw_below_drewN | apply below_drew1) | exact HB.out)⟩
             ·rw [if_neg c23] at H
              exact absurd H (by simp)
            ·rw [if_neg c22] at H
             exact absurd H (by simp)
          ·rw [if_neg c18] at H
           exact absurd H (by simp)
         ·rw [if_neg c17] at H
          have c17b0 : ((bt a0 x6_1) == 62) = false := beq_eq_false_iff_ne.mpr c17
          have c17b1 : ((bt a0 x6_1) != 62) = true := bne_iff_ne.mpr c17
          have H' := Aside0.mk H
          clear H
          have p16 : 0 ≤ (x6_1 : Int) := of_decide_eq_true (by first | (with_reducible assumption) | assumption)
          have q16 : x6_1 < (a0.size : Int) := of_decide_eq_true (by first | (with_reducible assumption) | assumption)
          have hx16 := bt_at a0 x6_1
          replace p16 := eq_true p16
          replace q16 := eq_true q16
          go_wp2
          go_roundg kj4
          case measure => have := HK1.out;have := HJ4.out;omega
          case rel => exact ⟨(wrap64 (x6_1 + 1)),(by first | rfl | (simp;done) | (simp [*];done)),H',⟨by have := HK1.out;have := HJ4.out;omega⟩,⟨by (with_reducible repeat (first | apply Kd.R_alloc | apply Kd.R_drewN | apply Kd.R_drew));exact HO_5.out⟩,⟨by repeat (first | (with_reducible first | exact HB.out | apply below_alloc | apply pw_below_drewN | apply below_drew1) | exact HB.out)⟩⟩
        ·rw [if_neg c15] at H
         exact absurd H (by simp)
       ·rw [if_neg c14] at H
        exact absurd H (by simp)
   ·rw [if_neg c4] at H
    have c4b0 : decide (x6_1 < (a0.size : Int)) = false := decide_eq_false c4
    clear c4
    simp only [Option.some.injEq,Prod.mk.injEq] at H
    obtain ⟨rfl,rfl,rfl⟩ := H
    go_wp2
    go_ret3
    exact ⟨by first | rfl | (simp [errW_none,errW_some] <;> rfl) | (simp [*,errW_none,errW_some] <;> rfl),by repeat (first | (with_reducible first | exact HB.out | apply below_alloc | apply pw_below_drewN | apply below_drew1) | exact HB.out)⟩

end Go.Proofs.YtekifcbokdidlaaGreatDoor.PA

namespace Go.Proofs.YtekifcbokdidlaaGreatDoor.Pure
open Go.RowKit Go.Proofs.YtekifcbokdidlaaGreatDoorW.PrintWords Go.Proofs.YtekifcbokdidlaaGreatDoorW.PrintMore Go.Proofs.YtekifcbokdidlaaGreatDoor.Pl Go.Proofs.YtekifcbokdidlaaGreatDoor.PA

/-! #### names, one after the other -/
theorem rd_row (i : Nat) (hi : i < 183) : rd_T128 rtS (i : Int) = ⟨B (enm i),enn i⟩ := by
  have hl : i < entL.length := by rw [entL_len];exact hi
  unfold rd_T128 rtS
  rw [Int.toNat_natCast,List.getD_eq_getElem?_getD,List.getElem?_map,List.getElem?_eq_getElem hl]
  have e1 : enm i = entL[i].1 := by unfold enm;rw [List.getD_eq_getElem?_getD,List.getElem?_eq_getElem hl];rfl
  have e2 : enn i = ((entL[i].2 : Nat) : Int) := by unfold enn;rw [List.getD_eq_getElem?_getD,List.getElem?_eq_getElem hl];rfl
  rw [e1,e2]
  rfl
theorem rtS_len : rtS.length = 183 := by unfold rtS;rw [List.length_map,entL_len]
theorem named_l (t : List UInt8) : ∀ (d i : Nat),i + d = 183 → (∀ k,k < i → enm k ≠ t) → Ev (fun k => incipitref04_Named.l0 k (B t) rtS (i : Int)) (nmd t) := by
 intro d
 induction d with
 | zero =>
  intro i hi hn
  rw [nmd_miss t (fun k hk => hn k (by omega))]
  refine Ev.step (f := fun _ => some (⟨#[]⟩,false)) (fun k => ?_) (Ev.now _)
  simp only [incipitref04_Named.l0]
  rw [rtS_len,if_neg (by omega)]
 | succ d ih =>
  intro i hi hn
  have hil : i < 183 := by omega
  by_cases h : enm i = t
  ·subst h
   rw [nmd_hit i hil]
   refine Ev.step (f := fun _ => some (Go.Utf8.encode (enn i),true)) (fun k => ?_) (Ev.now _)
   simp only [incipitref04_Named.l0]
   rw [rtS_len,if_pos (by omega),if_pos (by omega),rd_row i hil,if_pos rfl]
  ·refine Ev.step (fun k => ?_) (ih (i + 1) (by omega) (fun k hk => ?_))
   ·simp only [incipitref04_Named.l0]
    rw [rtS_len,if_pos (by omega),if_pos (by omega),rd_row i hil,if_neg (by rw [B_toList,B_toList];exact h),w64 (by omega) (by omega)]
    rfl
   ·rcases Nat.lt_succ_iff_lt_or_eq.1 hk with h1 | rfl
    ·exact hn k h1
    ·exact h
theorem rnamed_ev (t : List UInt8) : Ev (fun k => incipitref04_Named.f k (B t)) (nmd t) := by
  unfold incipitref04_Named.f incipitref04_Table.f
  exact named_l t 183 0 rfl (fun k hk => by omega)
/-! #### the end -/
theorem end_l (s : List UInt8) (hs : s.length ≤ 1073741824) : ∀ (d i : Nat),i + d = s.length → (∀ x ∈ s.take i,x ≠ 59) → Ev (fun k => incipitref04_end.l0 k (B s) (i : Int)) (if (59 : UInt8) ∈ s.drop i then (i : Int) + ((upto (s.drop i)).length : Int) else -1) := by
 intro d
 induction d with
 | zero =>
  intro i hi hn
  rw [List.drop_of_length_le (by omega),if_neg (by simp)]
  refine Ev.step (f := fun _ => some (-1)) (fun k => ?_) (Ev.now _)
  simp only [incipitref04_end.l0]
  rw [if_neg (by rw [B_size];omega)]
 | succ d ih =>
  intro i hi hn
  have hil : i < s.length := by omega
  have h59 : ((s[i].toNat : Int) = 59) ↔ s[i] = 59 := u8_eq _ 59 (by omega)
  rw [List.drop_eq_getElem_cons hil]
  by_cases h : s[i] = 59
  ·rw [if_pos (by rw [h];simp),upto,if_pos h]
   refine Ev.step (f := fun _ => some ((i : Int) + (([] : List UInt8).length : Int))) (fun k => ?_) (Ev.now _)
   simp only [incipitref04_end.l0]
   rw [if_pos (by rw [B_size];omega),if_pos (by omega),B_bt s i hil,if_pos (h59.2 h)]
   simp
  ·have hm : (59 : UInt8) ∈ s[i] :: s.drop (i + 1) ↔ (59 : UInt8) ∈ s.drop (i + 1) := by rw [List.mem_cons];exact ⟨fun h' => h'.resolve_left (fun e => h e.symm),.inr⟩
   have hv : (if (59 : UInt8) ∈ s[i] :: s.drop (i + 1) then (i : Int) + ((upto (s[i] :: s.drop (i + 1))).length : Int) else -1) = if (59 : UInt8) ∈ s.drop (i + 1) then ((i + 1 : Nat) : Int) + ((upto (s.drop (i + 1))).length : Int) else -1 := by
    rw [upto,if_neg h,List.length_cons]
    by_cases h' : (59 : UInt8) ∈ s.drop (i + 1)
    ·rw [if_pos h',if_pos (hm.2 h')]
     omega
    ·rw [if_neg h',if_neg (fun e => h' (hm.1 e))]
   rw [hv]
   refine Ev.step (fun k => ?_) (ih (i + 1) (by omega) (fun x hx => ?_))
   ·simp only [incipitref04_end.l0]
    rw [if_pos (by rw [B_size];omega),if_pos (by omega),B_bt s i hil,if_neg (fun e => h (h59.1 e)),w64 (by omega) (by omega)]
    rfl
   ·rw [List.take_succ_eq_append_getElem hil,List.mem_append,List.mem_singleton] at hx
    rcases hx with e | e
    ·exact hn x e
    ·rw [e];exact h
theorem end_ev (s : List UInt8) (hs : s.length ≤ 1073741824) : Ev (fun k => incipitref04_end.f k (B s)) (if (59 : UInt8) ∈ s then ((upto s).length : Int) else -1) := by
  unfold incipitref04_end.f
  have h := end_l s hs s.length 0 (Nat.zero_add _) (by simp)
  rw [List.drop_zero] at h
  simpa using h
/-! #### numbers -/
/-- The digit's search: places left, the answer so far. -/
def inn (b c : Nat) : Nat → Int → Int
  | 0,d => d
  | n + 1,d => if c = ([48,49,50,51,52,53,54,55,56,57,97,98,99,100,101,102] : List Nat).getD (b - (n + 1)) 0 then inn b c n ((b - (n + 1) : Nat) : Int) else if c = ([48,49,50,51,52,53,54,55,56,57,65,66,67,68,69,70] : List Nat).getD (b - (n + 1)) 0 then inn b c n ((b - (n + 1) : Nat) : Int) else inn b c n d
theorem inn10 : ∀ c : Fin 256,inn 10 c.val 10 (-1) = if dOk 10 (UInt8.ofNat c.val) then (dv (UInt8.ofNat c.val) : Int) else -1 := by decide +kernel
theorem inn16 : ∀ c : Fin 256,inn 16 c.val 16 (-1) = if dOk 16 (UInt8.ofNat c.val) then (dv (UInt8.ofNat c.val) : Int) else -1 := by decide +kernel
theorem inn_eq (b : Nat) (hb : b = 10 ∨ b = 16) (x : UInt8) : inn b x.toNat b (-1) = if dOk b x then (dv x : Int) else -1 := by
  have hx : UInt8.ofNat x.toNat = x := by simp
  rcases hb with rfl | rfl
  · have h := inn10 ⟨x.toNat,x.toNat_lt⟩
    rwa [hx] at h
  · have h := inn16 ⟨x.toNat,x.toNat_lt⟩
    rwa [hx] at h
theorem lowB (j : Nat) (h : j < 16) : bt (⟨#[48,49,50,51,52,53,54,55,56,57,97,98,99,100,101,102]⟩ : ByteArray) (j : Int) = ((([48,49,50,51,52,53,54,55,56,57,97,98,99,100,101,102] : List Nat).getD j 0 : Nat) : Int) := by
  have h0 : ∀ i : Fin 16,bt (⟨#[48,49,50,51,52,53,54,55,56,57,97,98,99,100,101,102]⟩ : ByteArray) (i.val : Int) = ((([48,49,50,51,52,53,54,55,56,57,97,98,99,100,101,102] : List Nat).getD i.val 0 : Nat) : Int) := by decide +kernel
  exact h0 ⟨j,h⟩
theorem uppB (j : Nat) (h : j < 16) : bt (⟨#[48,49,50,51,52,53,54,55,56,57,65,66,67,68,69,70]⟩ : ByteArray) (j : Int) = ((([48,49,50,51,52,53,54,55,56,57,65,66,67,68,69,70] : List Nat).getD j 0 : Nat) : Int) := by
  have h0 : ∀ i : Fin 16,bt (⟨#[48,49,50,51,52,53,54,55,56,57,65,66,67,68,69,70]⟩ : ByteArray) (i.val : Int) = ((([48,49,50,51,52,53,54,55,56,57,65,66,67,68,69,70] : List Nat).getD i.val 0 : Nat) : Int) := by decide +kernel
  exact h0 ⟨j,h⟩
theorem num_in (b : Nat) (hb : b = 10 ∨ b = 16) (s : List UInt8) (_hs : s.length ≤ 7) (i : Nat) (hi : i < s.length) (n : Int) (r : Int) : ∀ (m : Nat) (d : Int),m ≤ b →
  (inn b s[i].toNat m d < 0 → r = -1) → (0 ≤ inn b s[i].toNat m d → Ev (fun k => incipitref04_number.l0 k (B s) (b : Int) (wrap64 (wrap64 (n * b) + inn b s[i].toNat m d)) (wrap64 ((i : Int) + 1))) r) →
  Ev (fun k => incipitref04_number.l1 k (B s) (b : Int) n (i : Int) d ((b - m : Nat) : Int)) r := by
 intro m
 induction m with
 | zero =>
  intro d hm h1 h2
  rw [inn] at h1 h2
  by_cases h : d < 0
  ·rw [h1 h]
   refine Ev.step (f := fun _ => some (-1)) (fun k => ?_) (Ev.now _)
   simp only [incipitref04_number.l1]
   rw [if_neg (by omega),if_pos h]
  ·refine Ev.step (fun k => ?_) (h2 (by omega))
   simp only [incipitref04_number.l1]
   rw [if_neg (by omega),if_neg h]
 | succ m ih =>
  intro d hm h1 h2
  rw [inn] at h1 h2
  have hb16 : b ≤ 16 := by omega
  have e1 : (((b - (m + 1) : Nat) : Int) + 1) = ((b - m : Nat) : Int) := by omega
  have hstep : ∀ k,incipitref04_number.l1 (k + 1) (B s) (b : Int) n (i : Int) d ((b - (m + 1) : Nat) : Int) =
    if s[i].toNat = ([48,49,50,51,52,53,54,55,56,57,97,98,99,100,101,102] : List Nat).getD (b - (m + 1)) 0 then incipitref04_number.l1 k (B s) (b : Int) n (i : Int) ((b - (m + 1) : Nat) : Int) ((b - m : Nat) : Int)
    else if s[i].toNat = ([48,49,50,51,52,53,54,55,56,57,65,66,67,68,69,70] : List Nat).getD (b - (m + 1)) 0 then incipitref04_number.l1 k (B s) (b : Int) n (i : Int) ((b - (m + 1) : Nat) : Int) ((b - m : Nat) : Int)
    else incipitref04_number.l1 k (B s) (b : Int) n (i : Int) d ((b - m : Nat) : Int) := by
   intro k
   simp only [incipitref04_number.l1]
   rw [if_pos (by omega),if_pos (by omega),if_pos (by rw [B_size];omega),if_pos (by omega),if_pos (by omega),B_bt s i hi,lowB _ (by omega),uppB _ (by omega),w64 (by omega) (by omega),e1]
   simp only [Int.natCast_inj]
  by_cases c1 : s[i].toNat = ([48,49,50,51,52,53,54,55,56,57,97,98,99,100,101,102] : List Nat).getD (b - (m + 1)) 0
  ·rw [if_pos c1] at h1 h2
   refine Ev.step (fun k => ?_) (ih _ (by omega) h1 h2)
   rw [hstep,if_pos c1]
  ·rw [if_neg c1] at h1 h2
   by_cases c2 : s[i].toNat = ([48,49,50,51,52,53,54,55,56,57,65,66,67,68,69,70] : List Nat).getD (b - (m + 1)) 0
   ·rw [if_pos c2] at h1 h2
    refine Ev.step (fun k => ?_) (ih _ (by omega) h1 h2)
    rw [hstep,if_neg c1,if_pos c2]
   ·rw [if_neg c2] at h1 h2
    refine Ev.step (fun k => ?_) (ih _ (by omega) h1 h2)
    rw [hstep,if_neg c1,if_neg c2]
theorem wr2 (N b D : Nat) (h : N * b ≤ 4294967296) (hD : D < 256) : wrap64 (wrap64 ((N : Int) * (b : Int)) + (D : Int)) = ((N * b + D : Nat) : Int) := by
  rw [← Int.natCast_mul]
  generalize N * b = M at h ⊢
  rw [w64 (x := (M : Int)) (by omega) (by omega),w64 (by omega) (by omega)]
  rfl
theorem num_l (b : Nat) (hb : b = 10 ∨ b = 16) (s : List UInt8) (hs : s.length ≤ 7) : ∀ (d i : Nat),i + d = s.length → (∀ x ∈ s.take i,dOk b x) →
  Ev (fun k => incipitref04_number.l0 k (B s) (b : Int) (num b (s.take i) : Int) (i : Int)) (if ∀ x ∈ s,dOk b x then (num b s : Int) else -1) := by
 intro d
 induction d with
 | zero =>
  intro i hi hn
  rw [List.take_of_length_le (by omega)] at hn ⊢
  rw [if_pos hn]
  refine Ev.step (f := fun _ => some (num b s : Int)) (fun k => ?_) (Ev.now _)
  simp only [incipitref04_number.l0]
  rw [if_neg (by rw [B_size];omega)]
 | succ d ih =>
  intro i hi hn
  have hil : i < s.length := by omega
  have hin := inn_eq b hb s[i]
  have hlt := num_lt b hb i (s.take i) (by rw [List.length_take];omega) hn
  have h16 : 16 ^ i ≤ 268435456 := Nat.le_trans (Nat.pow_le_pow_right (by omega) (show i ≤ 7 by omega)) (by decide)
  have hmul : num b (s.take i) * b ≤ 268435456 * 16 := Nat.mul_le_mul (by omega) (by omega)
  have hdv : ∀ h : dOk b s[i],dv s[i] < b := fun h => dv_le b s[i] h hb
  refine Ev.step (fun k => ?_) (num_in b hb s hs i hil (num b (s.take i) : Int) _ b (-1) (Nat.le_refl _) (fun h => ?_) (fun h => ?_))
  ·simp only [incipitref04_number.l0]
   rw [if_pos (by rw [B_size];omega),Nat.sub_self]
   rfl
  ·rw [hin] at h
   by_cases hd : dOk b s[i]
   ·rw [if_pos hd] at h
    omega
   ·rw [if_neg (fun e => hd (e _ (List.getElem_mem hil)))]
  ·rw [hin] at h ⊢
   by_cases hd : dOk b s[i]
   ·rw [if_pos hd]
    have hdl := hdv hd
    have h2 := ih (i + 1) (by omega) (fun x hx => by
     rw [List.take_succ_eq_append_getElem hil,List.mem_append,List.mem_singleton] at hx
     rcases hx with e | e
     ·exact hn x e
     ·rw [e];exact hd)
    rw [List.take_succ_eq_append_getElem hil,num_snoc] at h2
    have e1 : wrap64 (wrap64 ((num b (s.take i) : Int) * (b : Int)) + (dv s[i] : Int)) = ((num b (s.take i) * b + dv s[i] : Nat) : Int) :=
      wr2 _ _ _ (by omega) (by omega)
    rw [e1,w64 (by omega) (by omega)]
    exact h2
   ·rw [if_neg hd] at h
    omega
/-- The number of a reference, or -1. -/
def rnum (b most : Nat) (s : List UInt8) : Int := if s = [] ∨ most < s.length then -1 else if ∀ x ∈ s,dOk b x then (num b s : Int) else -1
theorem rnum_ev (b most : Nat) (hb : b = 10 ∨ b = 16) (hm : most ≤ 7) (s : List UInt8) (hs : s.length ≤ 1073741824) : Ev (fun k => incipitref04_number.f k (B s) (b : Int) (most : Int)) (rnum b most s) := by
 unfold incipitref04_number.f rnum
 have hj : ∀ c : Bool,(c = true → (if s = [] ∨ most < s.length then -1 else if ∀ x ∈ s,dOk b x then (num b s : Int) else -1) = -1) → (c = false → ¬ (s = [] ∨ most < s.length)) → Ev (fun k => incipitref04_number.j0 k (B s) (b : Int) c) (if s = [] ∨ most < s.length then -1 else if ∀ x ∈ s,dOk b x then (num b s : Int) else -1) := by
  intro c h1 h2
  cases c with
  | true =>
   rw [h1 rfl]
   refine Ev.step (f := fun _ => some (-1)) (fun k => ?_) (Ev.now _)
   simp only [incipitref04_number.j0,if_true]
  | false =>
   have h3 := h2 rfl
   rw [if_neg h3]
   rw [not_or] at h3
   refine Ev.step (fun k => ?_) (num_l b hb s (by omega) s.length 0 (Nat.zero_add _) (by simp))
   simp only [incipitref04_number.j0]
   rw [if_neg (by simp)]
   rfl
 by_cases h0 : s = []
 ·refine Ev.congr (fun k => ?_) (hj true (fun _ => by rw [if_pos (.inl h0)]) (fun e => by cases e))
  rw [if_pos (by rw [B_size,h0];rfl)]
 ·have hl : 0 < s.length := List.length_pos_iff.2 h0
  refine Ev.congr (fun k => ?_) (hj (decide (((B s).size : Int) > (most : Int))) (fun e => ?_) (fun e => ?_))
  ·rw [if_neg (by rw [B_size];omega)]
  ·have := of_decide_eq_true e
   rw [B_size] at this
   rw [if_pos (.inr (by omega))]
  ·have := of_decide_eq_false e
   rw [B_size] at this
   rintro (e | e)
   ·exact h0 e
   ·omega

/-- What is answered, by the character and the place of the ;. -/
def resE (c : ByteArray × Bool) (e : Int) : ByteArray × Int := if c.2 = true then (c.1,e + 1) else (⟨#[]⟩,0)
theorem rd_no (a : ByteArray) (e : Int) : Ev (fun k => incipitref04_Read.j0 k a e true) ((⟨#[]⟩,0) : ByteArray × Int) := by
  refine Ev.step (f := fun _ => some (⟨#[]⟩,0)) (fun k => ?_) (Ev.now _)
  simp only [incipitref04_Read.j0,if_true]
theorem j2_ev (e : Nat) (he : e ≤ 1073741824) (b most : Nat) (hb : b = 10 ∨ b = 16) (hm : most ≤ 7) (ok : UInt8 → Bool) (hok : ∀ x,ok x = true ↔ dOk b x) (t : List UInt8) :
  Ev (fun k => incipitref04_Read.j2 k (e : Int) (rnum b most t)) (resE (chr b most ok t) (e : Int)) := by
 have hall : t.all ok = true ↔ ∀ x ∈ t,dOk b x := by rw [List.all_eq_true];exact ⟨fun h x hx => (hok x).1 (h x hx),fun h x hx => (hok x).2 (h x hx)⟩
 have hneg : rnum b most t = -1 → (chr b most ok t).2 = false → Ev (fun k => incipitref04_Read.j2 k (e : Int) (rnum b most t)) (resE (chr b most ok t) (e : Int)) := by
  intro h1 h2
  rw [h1]
  unfold resE
  rw [h2,if_neg (by decide)]
  refine Ev.step (f := fun _ => some (⟨#[]⟩,0)) (fun k => ?_) (Ev.now _)
  simp only [incipitref04_Read.j2]
  rw [if_pos (by decide)]
 by_cases h1 : t = [] ∨ most < t.length
 ·refine hneg (by unfold rnum;rw [if_pos h1]) ?_
  unfold chr
  rw [if_pos (by rcases h1 with h | h;exact .inl h;exact .inr (.inl h))]
 ·by_cases h2 : ∀ x ∈ t,dOk b x
  ·have hlt := num_lt b hb t.length t rfl h2
   have hlen : t.length ≤ 7 := by rw [not_or] at h1;omega
   have h16 : 16 ^ t.length ≤ 268435456 := Nat.le_trans (Nat.pow_le_pow_right (by omega) hlen) (by decide)
   have hr : rnum b most t = (num b t : Int) := by unfold rnum;rw [if_neg h1,if_pos h2]
   have hc : chr b most ok t = (Go.Utf8.encode (fixr (num b t)),true) := by
    unfold chr
    rw [if_neg]
    rintro (h | h | h)
    ·exact h1 (.inl h)
    ·exact h1 (.inr h)
    ·rw [hall.2 h2] at h;cases h
   rw [hr,hc]
   unfold resE
   rw [if_pos rfl]
   generalize num b t = n at hlt
   clear hr hc hneg h1 h2
   have hn : n ≤ 268435456 := by omega
   clear hlt h16
   refine Ev.step (f := fun _ => some (Go.Utf8.encode (fixr n),(e : Int) + 1)) (fun k => ?_) (Ev.now _)
   simp only [incipitref04_Read.j2]
   rw [if_neg (by omega),w64 (x := (e : Int) + 1) (by omega) (by omega)]
   unfold fixr Lib.validRune
   by_cases c0 : n = 0
   ·rw [if_pos (by omega),if_pos (.inl c0)]
   ·rw [if_neg (by omega)]
    have hw : wrap32 (n : Int) = if n ≤ 1114111 then (n : Int) else wrap32 (n : Int) := by
     split
     ·unfold wrap32;omega
     ·rfl
    by_cases c1 : (n : Int) ≥ 55296
    ·rw [if_pos c1]
     by_cases c2 : (n : Int) ≤ 57343
     ·rw [if_pos c2,if_pos (.inr (by rw [decide_eq_false_iff_not];omega))]
     ·rw [if_neg c2]
      by_cases c3 : (n : Int) > 1114111
      ·rw [if_pos c3,if_pos (.inr (by rw [decide_eq_false_iff_not];omega))]
      ·rw [if_neg c3,if_neg (by rw [not_or];refine ⟨c0,?_⟩;rw [decide_eq_false_iff_not,Classical.not_not];omega),hw,if_pos (by omega)]
    ·rw [if_neg c1,if_neg (show ¬ (n : Int) > 1114111 by omega),if_neg (by rw [not_or];refine ⟨c0,?_⟩;rw [decide_eq_false_iff_not,Classical.not_not];omega),hw,if_pos (by omega)]
  ·refine hneg (by unfold rnum;rw [if_neg h1,if_neg h2]) ?_
   unfold chr
   rw [if_pos (.inr (.inr (by cases ha : t.all ok with | true => exact absurd (hall.1 ha) h2 | false => rfl)))]
theorem dg_ok (x : UInt8) : dg x = true ↔ dOk 10 x := by unfold dg dOk;rw [decide_eq_true_iff];omega
theorem hxd_ok (x : UInt8) : hxd x = true ↔ dOk 16 x := by unfold hxd;rw [decide_eq_true_iff]
theorem j1_hex (y : UInt8) (t : List UInt8) (hs : t.length ≤ 1073741820) : Ev (fun k => incipitref04_Read.j1 k (B (38 :: 35 :: y :: t)) (((upto t).length + 3 : Nat) : Int) true) (resE (chr 16 6 hxd (upto t)) (((upto t).length + 3 : Nat) : Int)) := by
 have hl := upto_len t
 refine Ev.step (f := fun k => (incipitref04_number.f k (B (upto t)) 16 6).bind fun t123 => (incipitref04_Read.j2 k (((upto t).length + 3 : Nat) : Int) t123)) (fun k => ?_) (Ev.bind (rnum_ev 16 6 (.inr rfl) (by decide) (upto t) (by omega)) (j2_ev ((upto t).length + 3) (by omega) 16 6 (.inr rfl) (by decide) hxd hxd_ok _))
 simp only [incipitref04_Read.j1]
 rw [if_pos trivial,if_pos (by omega),if_pos (by rw [B_size];simp only [List.length_cons];omega),B_extract,Int.toNat_natCast,Nat.add_sub_cancel]
 show (incipitref04_number.f k (B (t.take (upto t).length)) 16 6).bind _ = _
 rw [upto_take]
theorem j1_dec (t : List UInt8) (hs : t.length ≤ 1073741820) : Ev (fun k => incipitref04_Read.j1 k (B (38 :: 35 :: t)) (((upto t).length + 2 : Nat) : Int) false) (resE (chr 10 7 dg (upto t)) (((upto t).length + 2 : Nat) : Int)) := by
 have hl := upto_len t
 refine Ev.step (f := fun k => (incipitref04_number.f k (B (upto t)) 10 7).bind fun t124 => (incipitref04_Read.j2 k (((upto t).length + 2 : Nat) : Int) t124)) (fun k => ?_) (Ev.bind (rnum_ev 10 7 (.inl rfl) (by decide) (upto t) (by omega)) (j2_ev ((upto t).length + 2) (by omega) 10 7 (.inl rfl) (by decide) dg dg_ok _))
 simp only [incipitref04_Read.j1]
 rw [if_neg (by simp),if_pos (by omega),if_pos (by rw [B_size];simp only [List.length_cons];omega),B_extract,Int.toNat_natCast,Nat.add_sub_cancel]
 show (incipitref04_number.f k (B (t.take (upto t).length)) 10 7).bind _ = _
 rw [upto_take]
theorem or_x : ∀ y : UInt8,(y.toNat ||| 32) = 120 ↔ y = 120 ∨ y = 88 := by
  have h : ∀ y : Fin 256,(y.val ||| 32) = 120 ↔ y.val = 120 ∨ y.val = 88 := by decide +kernel
  intro y
  rw [h ⟨y.toNat,y.toNat_lt⟩]
  constructor
  · rintro (e | e)
    · exact .inl (UInt8.toNat_inj.1 e)
    · exact .inr (UInt8.toNat_inj.1 e)
  · rintro (rfl | rfl)
    · exact .inl rfl
    · exact .inr rfl
theorem nmd_nil : nmd [] = (⟨#[]⟩,false) := nmd_miss [] (fun k hk e => by have := (enm_facts k hk).1;rw [e] at this;simp at this)
/-- Behind &: the reference's answer where something stands ahead of the ;. -/
theorem j0_ev (x1 : UInt8) (t1 : List UInt8) (h59 : x1 ≠ 59) (hm : (59 : UInt8) ∈ t1) (hs : t1.length ≤ 1073741818) :
  Ev (fun k => incipitref04_Read.j0 k (B (38 :: x1 :: t1)) (((upto t1).length + 2 : Nat) : Int) false) (resE (bdy (x1 :: upto t1)) (((upto t1).length + 2 : Nat) : Int)) := by
 have hl := upto_len t1
 have h35 : ((x1.toNat : Int) = 35) ↔ x1 = 35 := u8_eq _ 35 (by omega)
 have hb1 : bt (B (38 :: x1 :: t1)) 1 = (x1.toNat : Int) := B_bt (38 :: x1 :: t1) 1 (by simp)
 have hz : (1 : Int) < ((B (38 :: x1 :: t1)).size : Int) := by rw [B_size];simp only [List.length_cons];omega
 have hz2 : (((upto t1).length + 2 : Nat) : Int) ≤ ((B (38 :: x1 :: t1)).size : Int) := by rw [B_size];simp only [List.length_cons];omega
 by_cases hx : x1 = 35
 ·subst hx
  cases t1 with
  | nil => cases hm
  | cons y t2 =>
   by_cases hy59 : y = 59
   ·have hu : upto (y :: t2) = [] := by rw [upto,if_pos hy59]
    have hj := j1_dec (y :: t2) (by omega)
    rw [hu] at hj ⊢
    rw [bdy_35]
    refine Ev.step (fun k => ?_) hj
    simp only [incipitref04_Read.j0]
    rw [if_neg (by simp),if_pos hz,hb1,if_pos (h35.2 rfl),if_neg (by decide)]
   ·have hu : upto (y :: t2) = y :: upto t2 := by rw [upto,if_neg hy59]
    have hb2 : bt (B (38 :: 35 :: y :: t2)) 2 = (y.toNat : Int) := B_bt (38 :: 35 :: y :: t2) 2 (by simp)
    have h120 : ((y.toNat : Int) = 120) ↔ y = 120 := u8_eq _ 120 (by omega)
    have h88 : ((y.toNat : Int) = 88) ↔ y = 88 := u8_eq _ 88 (by omega)
    have hz3 : (2 : Int) < ((B (38 :: 35 :: y :: t2)).size : Int) := by rw [B_size];simp only [List.length_cons];omega
    have hl2 := upto_len t2
    rw [List.length_cons] at hs
    by_cases hxx : (y.toNat ||| 32) = 120
    ·have hj := j1_hex y t2 (by omega)
     rw [hu,bdy_two,if_pos hxx,List.length_cons]
     refine Ev.step (fun k => ?_) hj
     simp only [incipitref04_Read.j0]
     rw [if_neg (by simp),if_pos hz,hb1,if_pos (h35.2 rfl),if_pos (by omega),if_pos hz3,hb2]
     rcases (or_x y).1 hxx with rfl | rfl
     ·rw [if_pos (by decide)]
     ·rw [if_neg (by decide)]
      rfl
    ·have hj := j1_dec (y :: t2) (by rw [List.length_cons];omega)
     rw [hu] at hj ⊢
     rw [bdy_two,if_neg hxx]
     refine Ev.step (fun k => ?_) hj
     have hn := fun e => hxx ((or_x y).2 e)
     simp only [incipitref04_Read.j0]
     rw [if_neg (by simp),if_pos hz,hb1,if_pos (h35.2 rfl),if_pos (by rw [List.length_cons];omega),if_pos hz3,hb2,if_neg (fun e => hn (.inl (h120.1 e))),show ((y.toNat : Int) == 88) = false from beq_eq_false_iff_ne.2 (fun e => hn (.inr (h88.1 e)))]
 ·rw [bdy_no x1 _ hx]
  have hr := rnamed_ev (x1 :: upto t1)
  refine Ev.step (f := fun k => (incipitref04_Named.f k (B (x1 :: upto t1))).bind fun bt121 => (if bt121.2 = true then (some (bt121.1,wrap64 ((((upto t1).length + 2 : Nat) : Int) + 1))) else (some ((⟨#[]⟩ : ByteArray),0)))) (fun k => ?_) (Ev.bind hr ?_)
  ·simp only [incipitref04_Read.j0]
   rw [if_neg (by simp),if_pos hz,hb1,if_neg (fun e => hx (h35.1 e)),if_pos (by omega),if_pos hz2,B_extract,Int.toNat_natCast]
   show (incipitref04_Named.f k (B (List.take ((upto t1).length + 1) (x1 :: t1)))).bind _ = _
   rw [List.take_succ_cons,upto_take]
  ·unfold resE
   rw [w64 (by omega) (by omega)]
   by_cases hc : (nmd (x1 :: upto t1)).2 = true
   ·rw [if_pos hc]
    exact Ev.congr (fun k => by rw [if_pos hc]) (Ev.now _)
   ·rw [if_neg hc]
    exact Ev.congr (fun k => by rw [if_neg hc]) (Ev.now _)
theorem rread_ev (s : List UInt8) (hs : s.length ≤ 1048576) : Ev (fun k => incipitref04_Read.f k (B s)) (rdE s) := by
 unfold incipitref04_Read.f
 refine Ev.bind (end_ev s (by omega)) ?_
 have hno : ∀ e : Int,e < 2 → rdE s = (⟨#[]⟩,0) → Ev (fun k => if e < 2 then (incipitref04_Read.j0 k (B s) e true) else (if 0 < ((B s).size : Int) then (incipitref04_Read.j0 k (B s) e ((bt (B s) 0) != 38)) else (none))) (rdE s) := by
  intro e he hr
  rw [hr]
  exact Ev.congr (fun k => by rw [if_pos he]) (rd_no (B s) e)
 cases s with
 | nil => exact hno _ (by decide) rfl
 | cons x t =>
  rw [List.length_cons] at hs
  have hl := upto_len t
  by_cases hx59 : x = 59
  ·subst hx59
   rw [if_pos (by simp),upto,if_pos rfl]
   exact hno _ (by decide) rfl
  ·have hm : (59 : UInt8) ∈ x :: t ↔ (59 : UInt8) ∈ t := by rw [List.mem_cons];exact ⟨fun h' => h'.resolve_left (fun e => hx59 e.symm),.inr⟩
   by_cases h : (59 : UInt8) ∈ t
   ·rw [if_pos (hm.2 h),upto,if_neg hx59,List.length_cons]
    cases t with
    | nil => cases h
    | cons x1 t1 =>
     by_cases hx1 : x1 = 59
     ·have hu : upto (x1 :: t1) = [] := by rw [upto,if_pos hx1]
      refine hno _ (by rw [hu];decide) ?_
      rw [rdE,hu]
      have hb : bdy [] = (⟨#[]⟩,false) := nmd_nil
      rw [hb,if_neg (show ¬ (false = true) by decide)]
      split
      ·first | rfl | (split <;> rfl)
      ·rfl
     ·have hu : upto (x1 :: t1) = x1 :: upto t1 := by rw [upto,if_neg hx1]
      have hm1 : (59 : UInt8) ∈ t1 := by rcases List.mem_cons.1 h with e | e;exact absurd e.symm hx1;exact e
      have hb0 : bt (B (x :: x1 :: t1)) 0 = (x.toNat : Int) := B_bt (x :: x1 :: t1) 0 (by simp)
      have h38 : ((x.toNat : Int) = 38) ↔ x = 38 := u8_eq _ 38 (by omega)
      rw [hu,List.length_cons]
      by_cases hx : x = 38
      ·subst hx
       have hj := j0_ev x1 t1 hx1 hm1 (by rw [List.length_cons] at hs;omega)
       rw [rdE,if_pos rfl,if_pos h,hu]
       have he : (if (bdy (x1 :: upto t1)).2 = true then ((bdy (x1 :: upto t1)).1,((x1 :: upto t1).length : Int) + 2) else ((⟨#[]⟩ : ByteArray),(0 : Int))) = resE (bdy (x1 :: upto t1)) (((upto t1).length + 2 : Nat) : Int) := by
        unfold resE
        split
        ·rw [List.length_cons]
         congr 1
         try omega
        ·rfl
       rw [he]
       refine Ev.congr (fun k => ?_) hj
       rw [if_neg (by omega),if_pos (by rw [B_size];simp only [List.length_cons];omega),hb0]
       rfl
      ·rw [show rdE (x :: x1 :: t1) = (⟨#[]⟩,0) from by rw [rdE,if_neg hx]]
       refine Ev.congr (fun k => ?_) (rd_no (B (x :: x1 :: t1)) (((upto t1).length + 1 + 1 : Nat) : Int))
       rw [if_neg (by omega),if_pos (by rw [B_size];simp only [List.length_cons];omega),hb0,show ((x.toNat : Int) != 38) = true from bne_iff_ne.2 (fun e => hx (h38.1 e))]
   ·rw [if_neg (fun e => h (hm.1 e))]
    refine hno _ (by decide) ?_
    rw [rdE,if_neg h]
    split <;> rfl
end Go.Proofs.YtekifcbokdidlaaGreatDoor.Pure

namespace Go.Proofs.YtekifcbokdidlaaGreatDoor.Pure
open Go.RowKit Go.Proofs.YtekifcbokdidlaaGreatDoorW.PrintWords Go.Proofs.YtekifcbokdidlaaGreatDoorW.PrintMore Go.Proofs.YtekifcbokdidlaaGreatDoor.Pl Go.Proofs.YtekifcbokdidlaaGreatDoor.PA

theorem rsign_eq (x : UInt8) : incipitref05_Sign.f (x.toNat : Int) = some (sgn x) := by
  have h : ∀ y : Fin 256,incipitref05_Sign.f (((UInt8.ofNat y.val).toNat : Nat) : Int) = some (sgn (UInt8.ofNat y.val)) := by decide +kernel
  have := h ⟨x.toNat,x.toNat_lt⟩
  rwa [show UInt8.ofNat x.toNat = x from UInt8.ofNat_toNat] at this
theorem runesc_l : ∀ (n : Nat) (l acc : List UInt8),l.length ≤ n → acc.length + 4 * l.length ≤ 100000 → Ev (fun k => incipitref05_Unescape.l0 k (B l) (B acc)) (B (acc ++ une l)) := by
 intro n
 induction n with
 | zero =>
  intro l acc hl _
  obtain rfl : l = [] := List.length_eq_zero_iff.1 (by omega)
  refine Ev.step (f := fun _ => some (B (acc ++ une []))) (fun k => ?_) (Ev.now _)
  simp only [incipitref05_Unescape.l0]
  rw [if_neg (by rw [B_size];simp),une_nil,List.append_nil]
 | succ n ih =>
  intro l acc hl hb
  cases l with
  | nil =>
   refine Ev.step (f := fun _ => some (B (acc ++ une []))) (fun k => ?_) (Ev.now _)
   simp only [incipitref05_Unescape.l0]
   rw [if_neg (by rw [B_size];simp),une_nil,List.append_nil]
  | cons x t =>
   rw [List.length_cons] at hl hb
   have hsz : (B (x :: t)).size = t.length + 1 := B_size _
   have hasz : (B acc).size = acc.length := B_size _
   have b0 : bt (B (x :: t)) 0 = (x.toNat : Int) := B_bt (x :: t) 0 (by simp)
   have e92 : ((x.toNat : Int) = 92) ↔ x = 92 := u8_eq _ 92 (by decide)
   have go : ¬ (x = 92 ∧ ∃ y ∈ t.head?,sgn y = true) → Ev (fun k => incipitref05_Unescape.j1 k (B (x :: t)) (B acc) false) (B (acc ++ une (x :: t))) := by
    intro hneg
    have hu := une_cons x t
    have hst := stp_cons x t
    rw [if_neg hneg] at hst
    have hl4 := stp_len (x :: t)
    have hp1 := stp_pos (x :: t)
    have hle := stp_le x t
    rw [List.length_cons] at hle
    refine Ev.step (f := fun k => (incipitref04_Read.f k (B (x :: t))).bind _) (fun k => by simp only [incipitref05_Unescape.j1];rw [if_neg (by simp)]) (Ev.bind (rread_ev (x :: t) (by rw [List.length_cons];omega)) ?_)
    by_cases hk : 0 < (rdE (x :: t)).2
    ·rw [if_pos hk] at hst
     obtain ⟨kn,hkn⟩ := Int.eq_ofNat_of_zero_le (show 0 ≤ (rdE (x :: t)).2 by omega)
     obtain ⟨Q,hQ⟩ : ∃ Q,(rdE (x :: t)).1 = Q := ⟨_,rfl⟩
     rw [hkn,hQ,Int.toNat_natCast] at hst
     rw [hst] at hu hl4 hp1 hle
     simp only at hu hl4 hp1 hle
     have hQs : Q.data.toList.length = Q.size := Array.length_toList
     have h3 := ih ((x :: t).drop kn) (acc ++ Q.data.toList) (by rw [List.length_drop,List.length_cons];omega) (by rw [List.length_append,List.length_drop,List.length_cons];omega)
     rw [hu,← List.append_assoc]
     refine Ev.congr (fun k => ?_) h3
     rw [hkn,hQ,if_pos (by omega),if_pos (by omega),if_pos (by omega),if_pos (by rw [hsz];omega),Int.toNat_natCast,B_from (x :: t) kn _ (B_size _)]
     rw [show B acc ++ Q = B (acc ++ Q.data.toList) by rw [← B_append,B_eta]]
    ·rw [if_neg hk] at hst
     rw [hst] at hu
     simp only at hu
     have h3 := ih t (acc ++ [x]) (by omega) (by rw [List.length_append];simp;omega)
     rw [hu,← List.append_assoc]
     refine Ev.congr (fun k => ?_) h3
     rw [if_neg (by omega),if_pos (by omega),if_pos (by rw [hsz];omega),B_to,B_from (x :: t) 1 _ (B_size _)]
     have e1 : (x :: t).take 1 = [x] := rfl
     have e2 : (x :: t).drop 1 = t := rfl
     rw [e1,e2,if_pos (by rw [hasz,B_size];simp;omega),B_append]
   by_cases h92 : x = 92
   ·cases t with
    | nil =>
     refine Ev.step (fun k => ?_) (go (fun e => by obtain ⟨_,y,hy,_⟩ := e;cases hy))
     simp only [incipitref05_Unescape.l0]
     rw [if_pos (by rw [hsz];simp),if_pos (by rw [hsz];simp),b0,if_pos (e92.2 h92),if_neg (by rw [hsz];simp)]
    | cons y u =>
     rw [List.length_cons] at hl hb hsz
     have b1 : bt (B (x :: y :: u)) 1 = (y.toNat : Int) := B_bt (x :: y :: u) 1 (by simp)
     have hstart : ∀ k,incipitref05_Unescape.l0 (k + 1) (B (x :: y :: u)) (B acc) = incipitref05_Unescape.j1 k (B (x :: y :: u)) (B acc) (sgn y) := by
      intro k
      simp only [incipitref05_Unescape.l0]
      rw [if_pos (by rw [hsz];omega),if_pos (by rw [hsz];omega),b0,if_pos (e92.2 h92),if_pos (by rw [hsz];omega),if_pos (by rw [hsz];omega),b1,rsign_eq,Option.bind_some]
     cases hsg : sgn y with
     | true =>
      have h3 := ih u (acc ++ [y]) (by omega) (by rw [List.length_append];simp;omega)
      rw [h92,une_sgn y u hsg]
      refine Ev.step (f := fun k => incipitref05_Unescape.j1 k (B (92 :: y :: u)) (B acc) true) (fun k => by have := hstart k;rw [hsg,h92] at this;exact this) (Ev.step (fun k => ?_) (by rw [show acc ++ y :: une u = (acc ++ [y]) ++ une u by simp];exact h3))
      simp only [incipitref05_Unescape.j1]
      rw [if_pos trivial,if_pos (by omega),if_pos (by rw [B_size];simp;omega),B_extract,B_from (92 :: y :: u) 2 _ (B_size _)]
      have e1 : List.take (2 - 1) (List.drop 1 ((92 : UInt8) :: y :: u)) = [y] := rfl
      have e2 : List.drop 2 ((92 : UInt8) :: y :: u) = u := rfl
      rw [e1,e2,if_pos (by rw [hasz,B_size];simp;omega),B_append]
     | false =>
      refine Ev.step (fun k => ?_) (go (fun e => by obtain ⟨_,z,hz,hs⟩ := e;obtain rfl := Option.some.inj hz;rw [hsg] at hs;cases hs))
      rw [hstart k,hsg]
   ·refine Ev.step (fun k => ?_) (go (fun e => h92 e.1))
    simp only [incipitref05_Unescape.l0]
    rw [if_pos (by rw [hsz];omega),if_pos (by rw [hsz];omega),b0,if_neg (fun e => h92 (e92.1 e))]
theorem runesc_ev (s : List UInt8) (hs : s.length ≤ 25000) : Ev (fun k => incipitref05_Unescape.f k (B s)) (B (une s)) := runesc_l s.length s [] (Nat.le_refl _) (by simp;omega)
end Go.Proofs.YtekifcbokdidlaaGreatDoor.Pure
