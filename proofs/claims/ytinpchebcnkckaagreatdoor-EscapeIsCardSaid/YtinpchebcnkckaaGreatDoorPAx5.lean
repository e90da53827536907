/-
  The contract of the reference's Href. Condition: a text of at most 2^20 bytes.
-/
import Derived.Test.YtinpchebcnkckaaGreatDoorPAx1
import Derived.Test.YtinpchebcnkckaaGreatDoorGHref
import Derived.Test.YtinpchebcnkckaaGreatDoorPAx0
import Derived.Test.YtinpchebcnkckaaGreatDoorGLib
import Derived.Test.YtinpchebcnkckaaGreatDoorGMax
import Derived.Test.YtinpchebcnkckaaGreatDoorGBody
import Derived.Test.YtinpchebcnkckaaGreatDoorGRefTab
import Derived.Test.YtinpchebcnkckaaGreatDoorGPunct
import Derived.Test.YtinpchebcnkckaaGreatDoorGHtml
import Derived.Test.YtinpchebcnkckaaGreatDoorGUnesc
namespace Go.Proofs.YtinpchebcnkckaaGreatDoor.PA
open Go.RowKit Go.Proofs.YtinpchebcnkckaaGreatDoor.Pl Go.Proofs.YtinpchebcnkckaaGreatDoorW.PrintWords Go.Proofs.YtinpchebcnkckaaGreatDoorW.PrintLast Go.Proofs.YtinpchebcnkckaaGreatDoorW.PrintMore
set_option linter.unusedVariables false

theorem refplain (x : UInt8) : incipitref05_plain.f 25 (x.toNat : Int) = some (pln x) := by
  have h : ∀ y : Fin 256, incipitref05_plain.f 25 (((UInt8.ofNat y.val).toNat : Nat) : Int) = some (pln (UInt8.ofNat y.val)) := by decide +kernel
  have := h ⟨x.toNat, x.toNat_lt⟩
  simpa using this
theorem drawn0_trans {w w1 w2 : World} (h : Drawn0 w w1) (k : Drawn0 w1 w2) : Drawn0 w w2 := by
  obtain ⟨⟨n, rfl⟩⟩ := k
  exact h.step n
theorem hex_slice (n : Nat) (h : n < 16) (y : UInt8) (hy : hxd16 n = y) (W : World) : (Instr.slice 9 (.string ⟨#[48, 49, 50, 51, 52, 53, 54, 55, 56, 57, 65, 66, 67, 68, 69, 70]⟩) (some (.int .u8 (n : Int))) (some (.int .u8 ((n : Int) + 1))) none).run Tryz.prog W = .ok (.string (B [y])) W := by
  have h1 := run_slice_string (P := Tryz.prog) W 9 ⟨#[48, 49, 50, 51, 52, 53, 54, 55, 56, 57, 65, 66, 67, 68, 69, 70]⟩ .u8 .u8 (n : Int) ((n : Int) + 1) Tryz.underlying9 (by omega) (by omega) (by show (n : Int) + 1 ≤ 16; omega)
  rw [h1, Int.toNat_natCast, show ((n : Int) + 1).toNat = n + 1 by omega]
  have h2 : ∀ m : Fin 16, (⟨#[48, 49, 50, 51, 52, 53, 54, 55, 56, 57, 65, 66, 67, 68, 69, 70]⟩ : ByteArray).extract m.val (m.val + 1) = B [hxd16 m.val] := by decide +kernel
  have h3 := h2 ⟨n, h⟩
  simp only at h3
  rw [h3, hy]
set_option maxHeartbeats 4000000 in
set_option maxRecDepth 100000 in
theorem refhref_walk (s : List UInt8) (hs : s.length ≤ 1048576) (w : World) :
    Calls Tryz.prog 14 #[.string (B s)] w fun e w' => e = .returned (.string (B (hrf s))) ∧ Drawn0 w w' := by
  have hsz : (B s).size = s.length := B_size s
  go_enter Tryz.func14, Tryz.ntmps14
  go_wp2
  go_loopw [3, 5] (fun v3 v5 wr => ∃ k : Nat, k ≤ s.length ∧ v5 = .int .i64 (k : Int) ∧ v3 = .string (B (hrf (s.take k))) ∧ Hid (Drawn0 w wr)) (fun _ v5 _ => s.length - (intOf v5).toNat)
  case atStart => exact ⟨0, Nat.zero_le _, rfl, rfl, Lib.hid (Drawn0.refl _)⟩
  case round =>
    obtain ⟨k, hk, rfl, rfl, HB⟩ := hrel
    by_cases hkn : k < s.length
    · have hks : k < (B s).size := by omega
      have hi : (B s)[k]'hks = s[k] := List.getElem_toArray hkn
      obtain ⟨x, hx⟩ : ∃ x, s[k] = x := ⟨_, rfl⟩
      have htk : hrf (s.take (k + 1)) = hrf (s.take k) ++ adr x := by
        rw [List.take_succ_eq_append_getElem hkn, hrf_append, ← hx]
        simp [hrf]
        try rfl
      rw [hx] at hi
      have hbd := (hrf_len (s.take k)).2
      rw [List.length_take] at hbd
      have hasz : (B (hrf (s.take k))).size = (hrf (s.take k)).length := B_size _
      have hX : (hrf (s.take k)).length ≤ 6291456 := by omega
      have hex : (B s).extract k (k + 1) = B [x] := by
        rw [B_extract, ← hx]
        congr 1
        rw [show k + 1 - k = 1 by omega, List.drop_eq_getElem_cons hkn]
        rfl
      have hsl : ∀ W, (Instr.slice 9 (.string (B s)) (some (.int .i64 (k : Int))) (some (.int .i64 ((k : Int) + 1))) none).run Tryz.prog W = .ok (.string (B [x])) W := by
        intro W
        have h := run_slice_string (P := Tryz.prog) W 9 (B s) .i64 .i64 (k : Int) ((k : Int) + 1) Tryz.underlying9 (by omega) (by omega) (by rw [hsz]; omega)
        rw [h, Int.toNat_natCast, show ((k : Int) + 1).toNat = k + 1 by omega, hex]
      have HT := Lib.hid htk
      have hxl := x.toNat_lt
      clear htk hbd hx
      generalize hrf (s.take k) = acc at *
      have HP := Lib.hid (fun W => incipitref05_plain.calls 25 (x.toNat : Int) (pln x) W (refplain x))
      cases hpl : pln x with
      | true =>
        rw [hpl] at HP
        have HA := Lib.hid (show B acc ++ B [x] = B (acc ++ adr x) by
          rw [B_append]
          congr 2
          have h0 : ∀ y : Fin 256, pln (UInt8.ofNat y.val) = true → adr (UInt8.ofNat y.val) = [UInt8.ofNat y.val] := by decide +kernel
          have := h0 ⟨x.toNat, hxl⟩
          simp only [UInt8.ofNat_toNat] at this
          exact (this hpl).symm)
        have hs1 : (B [x]).size = 1 := B_size _
        have hb7 : ¬ 9223372036854775807 < acc.length + 1 := by omega
        clear hpl
        go_wp2_with fail
        refine (HP.out _).mono ?_
        rintro e w1 ⟨rfl, hd⟩
        have HB1 := Lib.hid (drawn0_trans HB.out hd)
        clear hd
        go_wp2
        go_roundw
        case rel => exact ⟨k + 1, hkn, by go_num, by rw [HT.out]; exact congrArg Value.string HA.out, HB1⟩
        case measure => simp [intOf]; omega
      | false =>
        rw [hpl] at HP
        have e38 := u8_eq x 38 (by decide)
        have e39 := u8_eq x 39 (by decide)
        have hb7 : ¬ 9223372036854775807 < acc.length + 5 := by omega
        by_cases h38 : x = 38
        · have q : ((x.toNat : Int) == 38) = true := beq_iff_eq.2 (e38.2 h38)
          have HA := Lib.hid (show B acc ++ ⟨#[38, 97, 109, 112, 59]⟩ = B (acc ++ adr x) by rw [show adr x = [38, 97, 109, 112, 59] by unfold adr; rw [if_pos h38], ← B_append]; rfl)
          clear hpl e38 e39 h38
          go_wp2_with fail
          refine (HP.out _).mono ?_
          rintro e w1 ⟨rfl, hd⟩
          have HB1 := Lib.hid (drawn0_trans HB.out hd)
          clear hd
          go_wp2
          go_roundw
          case rel => exact ⟨k + 1, hkn, by go_num, by rw [HT.out]; exact congrArg Value.string HA.out, HB1⟩
          case measure => simp [intOf]; omega
        · have q : ((x.toNat : Int) == 38) = false := beq_eq_false_iff_ne.2 (fun e => h38 (e38.1 e))
          by_cases h39 : x = 39
          · have q2 : ((x.toNat : Int) == 39) = true := beq_iff_eq.2 (e39.2 h39)
            have HA := Lib.hid (show B acc ++ ⟨#[38, 35, 51, 57, 59]⟩ = B (acc ++ adr x) by rw [show adr x = [38, 35, 51, 57, 59] by unfold adr; rw [if_neg h38, if_pos h39], ← B_append]; rfl)
            clear hpl e38 e39 h38 h39
            go_wp2_with fail
            refine (HP.out _).mono ?_
            rintro e w1 ⟨rfl, hd⟩
            have HB1 := Lib.hid (drawn0_trans HB.out hd)
            clear hd
            go_wp2
            go_roundw
            case rel => exact ⟨k + 1, hkn, by go_num, by rw [HT.out]; exact congrArg Value.string HA.out, HB1⟩
            case measure => simp [intOf]; omega
          · have q2 : ((x.toNat : Int) == 39) = false := beq_eq_false_iff_ne.2 (fun e => h39 (e39.1 e))
            have hadr : adr x = [37, hxd16 (x.toNat / 16), hxd16 (x.toNat % 16)] := by unfold adr; rw [if_neg h38, if_neg h39, hpl]; rfl
            obtain ⟨y1, hy1⟩ : ∃ y, hxd16 (x.toNat / 16) = y := ⟨_, rfl⟩
            obtain ⟨y2, hy2⟩ : ∃ y, hxd16 (x.toNat % 16) = y := ⟨_, rfl⟩
            rw [hy1, hy2] at hadr
            have s1 : ∀ W, (Instr.slice 9 (.string ⟨#[48, 49, 50, 51, 52, 53, 54, 55, 56, 57, 65, 66, 67, 68, 69, 70]⟩) (some (.int .u8 ((x.toNat : Int) / 16))) (some (.int .u8 ((x.toNat : Int) / 16 + 1))) none).run Tryz.prog W = .ok (.string (B [y1])) W := hex_slice (x.toNat / 16) (by omega) y1 hy1
            have s2 : ∀ W, (Instr.slice 9 (.string ⟨#[48, 49, 50, 51, 52, 53, 54, 55, 56, 57, 65, 66, 67, 68, 69, 70]⟩) (some (.int .u8 ((x.toNat : Int) % 16))) (some (.int .u8 ((x.toNat : Int) % 16 + 1))) none).run Tryz.prog W = .ok (.string (B [y2])) W := hex_slice (x.toNat % 16) (by omega) y2 hy2
            have HA := Lib.hid (show B acc ++ ⟨#[37]⟩ ++ B [y1] ++ B [y2] = B (acc ++ adr x) by rw [hadr, show (⟨#[37]⟩ : ByteArray) = B [37] from rfl, B_append, B_append, B_append]; congr 1; simp)
            have z1 : (B [y1]).size = 1 := B_size _
            have z2 : (B [y2]).size = 1 := B_size _
            clear hpl e38 e39 h38 h39 hadr hy1 hy2
            go_wp2_with fail
            refine (HP.out _).mono ?_
            rintro e w1 ⟨rfl, hd⟩
            have HB1 := Lib.hid (drawn0_trans HB.out hd)
            clear hd
            go_wp2
            go_region
            go_wp2
            go_roundw
            case rel => exact ⟨k + 1, hkn, by go_num, by rw [HT.out]; exact congrArg Value.string HA.out, Lib.hid (HB1.out.step 1)⟩
            case measure => simp [intOf]; omega
    · obtain rfl : k = s.length := by omega
      rw [List.take_length]
      go_wp2
      go_ret
      exact ⟨rfl, HB.out⟩
def incipitref05_Href.f (_ : Nat) (a0 : ByteArray) : Option ByteArray := if a0.size ≤ 1048576 then some (B (hrf a0.data.toList)) else none
theorem incipitref05_Href.mono : ∀ a0 k, LeO (incipitref05_Href.f k a0) (incipitref05_Href.f (k + 1) a0) := fun a0 k => LeO.refl _
theorem incipitref05_Href.calls (k : Nat) (a0 : ByteArray) (r : ByteArray) (w : World) (h : incipitref05_Href.f k a0 = some r) :
    Calls Tryz.prog 14 #[.string a0] w fun e w' => e = .returned (.string r) ∧ Drawn0 w w' := by
  unfold incipitref05_Href.f at h
  split at h
  · rename_i hc
    obtain rfl := Option.some.inj h
    exact refhref_walk a0.data.toList (by rw [Array.length_toList]; exact hc) w
  · cases h
end Go.Proofs.YtinpchebcnkckaaGreatDoor.PA
namespace Go.Proofs.YtinpchebcnkckaaGreatDoor.PA
open Go.RowKit Go.Proofs.YtinpchebcnkckaaGreatDoorW.PrintWords Go.Proofs.YtinpchebcnkckaaGreatDoorW.PrintLast Go.Proofs.YtinpchebcnkckaaGreatDoorW.PrintMore
attribute [local go_sem] max2_int min2_int max_two min_two max_three min_three max_four min_four   -- for this text's walks alone
set_option linter.unusedVariables false
set_option linter.unusedSimpArgs false

/-! ### incipitref05_Sign: function 18 -/
def incipitref05_Sign.f (a0 : Int) : Option (Bool) := if a0 ≥ 33 then (if a0 ≤ 47 then (some true) else (if a0 ≥ 58 then (if a0 ≤ 64 then (some true) else (if a0 ≥ 91 then (if a0 ≤ 96 then (some true) else (if a0 ≥ 123 then (some (decide (a0 ≤ 126))) else (some false))) else (if a0 ≥ 123 then (some (decide (a0 ≤ 126))) else (some false)))) else (if a0 ≥ 91 then (if a0 ≤ 96 then (some true) else (if a0 ≥ 123 then (some (decide (a0 ≤ 126))) else (some false))) else (if a0 ≥ 123 then (some (decide (a0 ≤ 126))) else (some false))))) else (if a0 ≥ 58 then (if a0 ≤ 64 then (some true) else (if a0 ≥ 91 then (if a0 ≤ 96 then (some true) else (if a0 ≥ 123 then (some (decide (a0 ≤ 126))) else (some false))) else (if a0 ≥ 123 then (some (decide (a0 ≤ 126))) else (some false)))) else (if a0 ≥ 91 then (if a0 ≤ 96 then (some true) else (if a0 ≥ 123 then (some (decide (a0 ≤ 126))) else (some false))) else (if a0 ≥ 123 then (some (decide (a0 ≤ 126))) else (some false))))
set_option maxHeartbeats 8000000 in
set_option maxRecDepth 100000 in
theorem incipitref05_Sign.calls (a0 : Int) (r : Bool) (w : World) (h : incipitref05_Sign.f a0 = some r) :
    Calls Tryz.prog 18 #[.int .u8 a0] w fun e w' => e = .returned (.bool r) ∧ Drawn0 w w' := by
  have H : (if a0 ≥ 33 then (if a0 ≤ 47 then (some true) else (if a0 ≥ 58 then (if a0 ≤ 64 then (some true) else (if a0 ≥ 91 then (if a0 ≤ 96 then (some true) else (if a0 ≥ 123 then (some (decide (a0 ≤ 126))) else (some false))) else (if a0 ≥ 123 then (some (decide (a0 ≤ 126))) else (some false)))) else (if a0 ≥ 91 then (if a0 ≤ 96 then (some true) else (if a0 ≥ 123 then (some (decide (a0 ≤ 126))) else (some false))) else (if a0 ≥ 123 then (some (decide (a0 ≤ 126))) else (some false))))) else (if a0 ≥ 58 then (if a0 ≤ 64 then (some true) else (if a0 ≥ 91 then (if a0 ≤ 96 then (some true) else (if a0 ≥ 123 then (some (decide (a0 ≤ 126))) else (some false))) else (if a0 ≥ 123 then (some (decide (a0 ≤ 126))) else (some false)))) else (if a0 ≥ 91 then (if a0 ≤ 96 then (some true) else (if a0 ≥ 123 then (some (decide (a0 ≤ 126))) else (some false))) else (if a0 ≥ 123 then (some (decide (a0 ≤ 126))) else (some false))))) = some r := h
  clear h
  by_cases c2 : a0 ≥ 33
  · rw [if_pos c2] at H
    have c2b0 : decide (33 ≤ a0) = true := decide_eq_true c2
    clear c2
    by_cases c3 : a0 ≤ 47
    · rw [if_pos c3] at H
      have c3b0 : decide (a0 ≤ 47) = true := decide_eq_true c3
      clear c3
      obtain rfl := Option.some.inj H
      go_enter Tryz.func18, Tryz.ntmps18
      go_wp2
      go_ret
      exact ⟨by first | rfl | (simp; done) | (simp [*]; done), by repeat (first | exact Drawn0.refl _ | apply Drawn0.step)⟩
    · rw [if_neg c3] at H
      have c3b0 : decide (a0 ≤ 47) = false := decide_eq_false c3
      clear c3
      by_cases c4 : a0 ≥ 58
      · rw [if_pos c4] at H
        have c4b0 : decide (58 ≤ a0) = true := decide_eq_true c4
        clear c4
        by_cases c5 : a0 ≤ 64
        · rw [if_pos c5] at H
          have c5b0 : decide (a0 ≤ 64) = true := decide_eq_true c5
          clear c5
          obtain rfl := Option.some.inj H
          go_enter Tryz.func18, Tryz.ntmps18
          go_wp2
          go_ret
          exact ⟨by first | rfl | (simp; done) | (simp [*]; done), by repeat (first | exact Drawn0.refl _ | apply Drawn0.step)⟩
        · rw [if_neg c5] at H
          have c5b0 : decide (a0 ≤ 64) = false := decide_eq_false c5
          clear c5
          by_cases c6 : a0 ≥ 91
          · rw [if_pos c6] at H
            have c6b0 : decide (91 ≤ a0) = true := decide_eq_true c6
            clear c6
            by_cases c7 : a0 ≤ 96
            · rw [if_pos c7] at H
              have c7b0 : decide (a0 ≤ 96) = true := decide_eq_true c7
              clear c7
              obtain rfl := Option.some.inj H
              go_enter Tryz.func18, Tryz.ntmps18
              go_wp2
              go_ret
              exact ⟨by first | rfl | (simp; done) | (simp [*]; done), by repeat (first | exact Drawn0.refl _ | apply Drawn0.step)⟩
            · rw [if_neg c7] at H
              have c7b0 : decide (a0 ≤ 96) = false := decide_eq_false c7
              clear c7
              by_cases c8 : a0 ≥ 123
              · rw [if_pos c8] at H
                have c8b0 : decide (123 ≤ a0) = true := decide_eq_true c8
                clear c8
                obtain rfl := Option.some.inj H
                go_enter Tryz.func18, Tryz.ntmps18
                go_wp2
                go_ret
                exact ⟨by first | rfl | (simp; done) | (simp [*]; done), by repeat (first | exact Drawn0.refl _ | apply Drawn0.step)⟩
              · rw [if_neg c8] at H
                have c8b0 : decide (123 ≤ a0) = false := decide_eq_false c8
                clear c8
                obtain rfl := Option.some.inj H
                go_enter Tryz.func18, Tryz.ntmps18
                go_wp2
                go_ret
                exact ⟨by first | rfl | (simp; done) | (simp [*]; done), by repeat (first | exact Drawn0.refl _ | apply Drawn0.step)⟩
          · rw [if_neg c6] at H
            have c6b0 : decide (91 ≤ a0) = false := decide_eq_false c6
            clear c6
            by_cases c9 : a0 ≥ 123
            · rw [if_pos c9] at H
              have c9b0 : decide (123 ≤ a0) = true := decide_eq_true c9
              clear c9
              obtain rfl := Option.some.inj H
              go_enter Tryz.func18, Tryz.ntmps18
              go_wp2
              go_ret
              exact ⟨by first | rfl | (simp; done) | (simp [*]; done), by repeat (first | exact Drawn0.refl _ | apply Drawn0.step)⟩
            · rw [if_neg c9] at H
              have c9b0 : decide (123 ≤ a0) = false := decide_eq_false c9
              clear c9
              obtain rfl := Option.some.inj H
              go_enter Tryz.func18, Tryz.ntmps18
              go_wp2
              go_ret
              exact ⟨by first | rfl | (simp; done) | (simp [*]; done), by repeat (first | exact Drawn0.refl _ | apply Drawn0.step)⟩
      · rw [if_neg c4] at H
        have c4b0 : decide (58 ≤ a0) = false := decide_eq_false c4
        clear c4
        by_cases c10 : a0 ≥ 91
        · rw [if_pos c10] at H
          have c10b0 : decide (91 ≤ a0) = true := decide_eq_true c10
          clear c10
          by_cases c11 : a0 ≤ 96
          · rw [if_pos c11] at H
            have c11b0 : decide (a0 ≤ 96) = true := decide_eq_true c11
            clear c11
            obtain rfl := Option.some.inj H
            go_enter Tryz.func18, Tryz.ntmps18
            go_wp2
            go_ret
            exact ⟨by first | rfl | (simp; done) | (simp [*]; done), by repeat (first | exact Drawn0.refl _ | apply Drawn0.step)⟩
          · rw [if_neg c11] at H
            have c11b0 : decide (a0 ≤ 96) = false := decide_eq_false c11
            clear c11
            by_cases c12 : a0 ≥ 123
            · rw [if_pos c12] at H
              have c12b0 : decide (123 ≤ a0) = true := decide_eq_true c12
              clear c12
              obtain rfl := Option.some.inj H
              go_enter Tryz.func18, Tryz.ntmps18
              go_wp2
              go_ret
              exact ⟨by first | rfl | (simp; done) | (simp [*]; done), by repeat (first | exact Drawn0.refl _ | apply Drawn0.step)⟩
            · rw [if_neg c12] at H
              have c12b0 : decide (123 ≤ a0) = false := decide_eq_false c12
              clear c12
              obtain rfl := Option.some.inj H
              go_enter Tryz.func18, Tryz.ntmps18
              go_wp2
              go_ret
              exact ⟨by first | rfl | (simp; done) | (simp [*]; done), by repeat (first | exact Drawn0.refl _ | apply Drawn0.step)⟩
        · rw [if_neg c10] at H
          have c10b0 : decide (91 ≤ a0) = false := decide_eq_false c10
          clear c10
          by_cases c13 : a0 ≥ 123
          · rw [if_pos c13] at H
            have c13b0 : decide (123 ≤ a0) = true := decide_eq_true c13
            clear c13
            obtain rfl := Option.some.inj H
            go_enter Tryz.func18, Tryz.ntmps18
            go_wp2
            go_ret
            exact ⟨by first | rfl | (simp; done) | (simp [*]; done), by repeat (first | exact Drawn0.refl _ | apply Drawn0.step)⟩
          · rw [if_neg c13] at H
            have c13b0 : decide (123 ≤ a0) = false := decide_eq_false c13
            clear c13
            obtain rfl := Option.some.inj H
            go_enter Tryz.func18, Tryz.ntmps18
            go_wp2
            go_ret
            exact ⟨by first | rfl | (simp; done) | (simp [*]; done), by repeat (first | exact Drawn0.refl _ | apply Drawn0.step)⟩
  · rw [if_neg c2] at H
    have c2b0 : decide (33 ≤ a0) = false := decide_eq_false c2
    clear c2
    by_cases c14 : a0 ≥ 58
    · rw [if_pos c14] at H
      have c14b0 : decide (58 ≤ a0) = true := decide_eq_true c14
      clear c14
      by_cases c15 : a0 ≤ 64
      · rw [if_pos c15] at H
        have c15b0 : decide (a0 ≤ 64) = true := decide_eq_true c15
        clear c15
        obtain rfl := Option.some.inj H
        go_enter Tryz.func18, Tryz.ntmps18
        go_wp2
        go_ret
        exact ⟨by first | rfl | (simp; done) | (simp [*]; done), by repeat (first | exact Drawn0.refl _ | apply Drawn0.step)⟩
      · rw [if_neg c15] at H
        have c15b0 : decide (a0 ≤ 64) = false := decide_eq_false c15
        clear c15
        by_cases c16 : a0 ≥ 91
        · rw [if_pos c16] at H
          have c16b0 : decide (91 ≤ a0) = true := decide_eq_true c16
          clear c16
          by_cases c17 : a0 ≤ 96
          · rw [if_pos c17] at H
            have c17b0 : decide (a0 ≤ 96) = true := decide_eq_true c17
            clear c17
            obtain rfl := Option.some.inj H
            go_enter Tryz.func18, Tryz.ntmps18
            go_wp2
            go_ret
            exact ⟨by first | rfl | (simp; done) | (simp [*]; done), by repeat (first | exact Drawn0.refl _ | apply Drawn0.step)⟩
          · rw [if_neg c17] at H
            have c17b0 : decide (a0 ≤ 96) = false := decide_eq_false c17
            clear c17
            by_cases c18 : a0 ≥ 123
            · rw [if_pos c18] at H
              have c18b0 : decide (123 ≤ a0) = true := decide_eq_true c18
              clear c18
              obtain rfl := Option.some.inj H
              go_enter Tryz.func18, Tryz.ntmps18
              go_wp2
              go_ret
              exact ⟨by first | rfl | (simp; done) | (simp [*]; done), by repeat (first | exact Drawn0.refl _ | apply Drawn0.step)⟩
            · rw [if_neg c18] at H
              have c18b0 : decide (123 ≤ a0) = false := decide_eq_false c18
              clear c18
              obtain rfl := Option.some.inj H
              go_enter Tryz.func18, Tryz.ntmps18
              go_wp2
              go_ret
              exact ⟨by first | rfl | (simp; done) | (simp [*]; done), by repeat (first | exact Drawn0.refl _ | apply Drawn0.step)⟩
        · rw [if_neg c16] at H
          have c16b0 : decide (91 ≤ a0) = false := decide_eq_false c16
          clear c16
          by_cases c19 : a0 ≥ 123
          · rw [if_pos c19] at H
            have c19b0 : decide (123 ≤ a0) = true := decide_eq_true c19
            clear c19
            obtain rfl := Option.some.inj H
            go_enter Tryz.func18, Tryz.ntmps18
            go_wp2
            go_ret
            exact ⟨by first | rfl | (simp; done) | (simp [*]; done), by repeat (first | exact Drawn0.refl _ | apply Drawn0.step)⟩
          · rw [if_neg c19] at H
            have c19b0 : decide (123 ≤ a0) = false := decide_eq_false c19
            clear c19
            obtain rfl := Option.some.inj H
            go_enter Tryz.func18, Tryz.ntmps18
            go_wp2
            go_ret
            exact ⟨by first | rfl | (simp; done) | (simp [*]; done), by repeat (first | exact Drawn0.refl _ | apply Drawn0.step)⟩
    · rw [if_neg c14] at H
      have c14b0 : decide (58 ≤ a0) = false := decide_eq_false c14
      clear c14
      by_cases c20 : a0 ≥ 91
      · rw [if_pos c20] at H
        have c20b0 : decide (91 ≤ a0) = true := decide_eq_true c20
        clear c20
        by_cases c21 : a0 ≤ 96
        · rw [if_pos c21] at H
          have c21b0 : decide (a0 ≤ 96) = true := decide_eq_true c21
          clear c21
          obtain rfl := Option.some.inj H
          go_enter Tryz.func18, Tryz.ntmps18
          go_wp2
          go_ret
          exact ⟨by first | rfl | (simp; done) | (simp [*]; done), by repeat (first | exact Drawn0.refl _ | apply Drawn0.step)⟩
        · rw [if_neg c21] at H
          have c21b0 : decide (a0 ≤ 96) = false := decide_eq_false c21
          clear c21
          by_cases c22 : a0 ≥ 123
          · rw [if_pos c22] at H
            have c22b0 : decide (123 ≤ a0) = true := decide_eq_true c22
            clear c22
            obtain rfl := Option.some.inj H
            go_enter Tryz.func18, Tryz.ntmps18
            go_wp2
            go_ret
            exact ⟨by first | rfl | (simp; done) | (simp [*]; done), by repeat (first | exact Drawn0.refl _ | apply Drawn0.step)⟩
          · rw [if_neg c22] at H
            have c22b0 : decide (123 ≤ a0) = false := decide_eq_false c22
            clear c22
            obtain rfl := Option.some.inj H
            go_enter Tryz.func18, Tryz.ntmps18
            go_wp2
            go_ret
            exact ⟨by first | rfl | (simp; done) | (simp [*]; done), by repeat (first | exact Drawn0.refl _ | apply Drawn0.step)⟩
      · rw [if_neg c20] at H
        have c20b0 : decide (91 ≤ a0) = false := decide_eq_false c20
        clear c20
        by_cases c23 : a0 ≥ 123
        · rw [if_pos c23] at H
          have c23b0 : decide (123 ≤ a0) = true := decide_eq_true c23
          clear c23
          obtain rfl := Option.some.inj H
          go_enter Tryz.func18, Tryz.ntmps18
          go_wp2
          go_ret
          exact ⟨by first | rfl | (simp; done) | (simp [*]; done), by repeat (first | exact Drawn0.refl _ | apply Drawn0.step)⟩
        · rw [if_neg c23] at H
          have c23b0 : decide (123 ≤ a0) = false := decide_eq_false c23
          clear c23
          obtain rfl := Option.some.inj H
          go_enter Tryz.func18, Tryz.ntmps18
          go_wp2
          go_ret
          exact ⟨by first | rfl | (simp; done) | (simp [*]; done), by repeat (first | exact Drawn0.refl _ | apply Drawn0.step)⟩

/-! ### incipitref04_end: function 38 -/
def incipitref04_end.l0 : Nat → ByteArray → Int → Option (Int)
  | 0, _, _ => none
  | k + 1, x0, x3 => if x3 < (x0.size : Int) then (if 0 ≤ x3 then (if (bt x0 x3) = 59 then (some x3) else (incipitref04_end.l0 k x0 (wrap64 (x3 + 1)))) else (none)) else (some (-1))
def incipitref04_end.f (k : Nat) (a0 : ByteArray) : Option (Int) := incipitref04_end.l0 k a0 0
theorem incipitref04_end.mono_l : ∀ k, (∀ y0 y1, LeO (incipitref04_end.l0 k y0 y1) (incipitref04_end.l0 (k + 1) y0 y1))
  | 0 => fun _ _ r h => by simp [incipitref04_end.l0] at h
  | k + 1 => by
    have ih0 := incipitref04_end.mono_l k
    · intro y0 y1
      unfold incipitref04_end.l0
      repeat' first
      | (with_reducible exact ih0 _ _)
      | (with_reducible exact LeO.refl _)
      | (with_reducible exact LeO.none _)
      | (with_reducible refine LeO.ite ?_ ?_)
      | (with_reducible refine LeO.bind ?_ (fun _ => ?_))
      | exact ih0 _ _
      | exact LeO.none _
      | refine LeO.ite ?_ ?_
      | refine LeO.bind ?_ (fun _ => ?_)
theorem incipitref04_end.mono : ∀ a0 k, LeO (incipitref04_end.f k a0) (incipitref04_end.f (k + 1) a0) := by
  intro a0 k
  have ih0 := incipitref04_end.mono_l k
  unfold incipitref04_end.f
  repeat' first
      | (with_reducible exact ih0 _ _)
      | (with_reducible exact LeO.refl _)
      | (with_reducible exact LeO.none _)
      | (with_reducible refine LeO.ite ?_ ?_)
      | (with_reducible refine LeO.bind ?_ (fun _ => ?_))
      | exact ih0 _ _
      | exact LeO.none _
      | refine LeO.ite ?_ ?_
      | refine LeO.bind ?_ (fun _ => ?_)
set_option maxHeartbeats 8000000 in
set_option maxRecDepth 100000 in
theorem incipitref04_end.calls (k : Nat) (a0 : ByteArray) (r : Int) (w : World) (h : incipitref04_end.f k a0 = some r) :
    Calls Tryz.prog 38 #[.string a0] w fun e w' => e = .returned (.int .i64 r) ∧ Drawn0 w w' := by
  have H : (incipitref04_end.l0 k a0 0) = some r := h
  clear h
  have H' := Aside0.mk H
  clear H
  go_enter Tryz.func38, Tryz.ntmps38
  go_wp2
  go_loopg [3] k (fun kq v3 w' => ∃ (x3_1 : Int), v3 = .int .i64 x3_1 ∧ Aside0 (incipitref04_end.l0 kq a0 x3_1 = some r) ∧ Aside0 (kq ≤ k) ∧ Drawn0 w w')
  case atStart => exact ⟨(0), (by first | rfl | (simp; done) | (simp [*]; done)), H', ⟨Nat.le_refl _⟩, by repeat (first | exact Drawn0.refl _ | apply Drawn0.step)⟩
  case round =>
    clear H'
    obtain ⟨x3_1, rfl, HA, HK1, ⟨m1, rfl⟩⟩ := hrel
    cases gk with
    | zero => exact absurd HA.out (by simp [incipitref04_end.l0])
    | succ k1 =>
      have H := HA.out
      clear HA
      simp only [incipitref04_end.l0] at H
      by_cases c2 : x3_1 < (a0.size : Int)
      · rw [if_pos c2] at H
        have c2b0 : decide (x3_1 < (a0.size : Int)) = true := decide_eq_true c2
        clear c2
        by_cases c3 : 0 ≤ x3_1
        · rw [if_pos c3] at H
          have c3b0 : decide (0 ≤ x3_1) = true := decide_eq_true c3
          clear c3
          by_cases c5 : (bt a0 x3_1) = 59
          · rw [if_pos c5] at H
            have c5b0 : ((bt a0 x3_1) == 59) = true := beq_iff_eq.mpr c5
            have c5b1 : ((bt a0 x3_1) != 59) = false := bne_eq_false_iff_eq.mpr c5
            clear c5
            obtain rfl := Option.some.inj H
            have p4 : 0 ≤ (x3_1 : Int) := of_decide_eq_true (by first | (with_reducible assumption) | assumption)
            have q4 : x3_1 < (a0.size : Int) := of_decide_eq_true (by first | (with_reducible assumption) | assumption)
            have hx4 := bt_at a0 x3_1
            replace p4 := eq_true p4
            replace q4 := eq_true q4
            go_wp2
            go_ret
            exact ⟨by first | rfl | (simp; done) | (simp [*]; done), by repeat (first | exact Drawn0.refl _ | apply Drawn0.step)⟩
          · rw [if_neg c5] at H
            have c5b0 : ((bt a0 x3_1) == 59) = false := beq_eq_false_iff_ne.mpr c5
            have c5b1 : ((bt a0 x3_1) != 59) = true := bne_iff_ne.mpr c5
            have H' := Aside0.mk H
            clear H
            have p4 : 0 ≤ (x3_1 : Int) := of_decide_eq_true (by first | (with_reducible assumption) | assumption)
            have q4 : x3_1 < (a0.size : Int) := of_decide_eq_true (by first | (with_reducible assumption) | assumption)
            have hx4 := bt_at a0 x3_1
            replace p4 := eq_true p4
            replace q4 := eq_true q4
            go_wp2
            go_roundg k1
            case measure => have := HK1.out; omega
            case rel => exact ⟨(wrap64 (x3_1 + 1)), (by first | rfl | (simp; done) | (simp [*]; done)), H', ⟨by have := HK1.out; omega⟩, by repeat (first | exact Drawn0.refl _ | apply Drawn0.step)⟩
        · rw [if_neg c3] at H
          exact absurd H (by simp)
      · rw [if_neg c2] at H
        have c2b0 : decide (x3_1 < (a0.size : Int)) = false := decide_eq_false c2
        clear c2
        obtain rfl := Option.some.inj H
        go_wp2
        go_ret
        exact ⟨by first | rfl | (simp; done) | (simp [*]; done), by repeat (first | exact Drawn0.refl _ | apply Drawn0.step)⟩

-- GIVEN: function 53 (incipitref04_Table)

/-! ### incipitref04_Named: function 39 -/
def incipitref04_Named.l0 : Nat → ByteArray → List (S82) → Int → Option (ByteArray × Bool)
  | 0, _, _, _ => none
  | k + 1, x0, x4, x5 => if x5 < (x4.length : Int) then (if 0 ≤ x5 then (if ((rd_T82 x4 x5).f0).toList = x0.toList then (some ((Go.Utf8.encode ((rd_T82 x4 x5).f1)), true)) else (incipitref04_Named.l0 k x0 x4 (wrap64 (x5 + 1)))) else (none)) else (some ((⟨#[]⟩ : ByteArray), false))
def incipitref04_Named.f (k : Nat) (a0 : ByteArray) : Option (ByteArray × Bool) := (incipitref04_Table.f).bind fun t108 => (incipitref04_Named.l0 k a0 t108 0)
theorem incipitref04_Named.mono_l : ∀ k, (∀ y0 y1 y2, LeO (incipitref04_Named.l0 k y0 y1 y2) (incipitref04_Named.l0 (k + 1) y0 y1 y2))
  | 0 => fun _ _ _ r h => by simp [incipitref04_Named.l0] at h
  | k + 1 => by
    have ih0 := incipitref04_Named.mono_l k
    · intro y0 y1 y2
      unfold incipitref04_Named.l0
      repeat' first
      | (with_reducible exact ih0 _ _ _)
      | (with_reducible exact LeO.refl _)
      | (with_reducible exact LeO.none _)
      | (with_reducible refine LeO.ite ?_ ?_)
      | (with_reducible refine LeO.bind ?_ (fun _ => ?_))
      | exact ih0 _ _ _
      | exact LeO.none _
      | refine LeO.ite ?_ ?_
      | refine LeO.bind ?_ (fun _ => ?_)
theorem incipitref04_Named.mono : ∀ a0 k, LeO (incipitref04_Named.f k a0) (incipitref04_Named.f (k + 1) a0) := by
  intro a0 k
  have ih0 := incipitref04_Named.mono_l k
  unfold incipitref04_Named.f
  repeat' first
      | (with_reducible exact ih0 _ _ _)
      | (with_reducible exact LeO.refl _)
      | (with_reducible exact LeO.none _)
      | (with_reducible refine LeO.ite ?_ ?_)
      | (with_reducible refine LeO.bind ?_ (fun _ => ?_))
      | exact ih0 _ _ _
      | exact LeO.none _
      | refine LeO.ite ?_ ?_
      | refine LeO.bind ?_ (fun _ => ?_)
set_option maxHeartbeats 8000000 in
set_option maxRecDepth 100000 in
theorem incipitref04_Named.calls (k : Nat) (a0 : ByteArray) (r1 : ByteArray) (r2 : Bool) (w : World) (h : incipitref04_Named.f k a0 = some (r1, r2)) :
    Calls Tryz.prog 39 #[.string a0] w fun e w' => e = .returned (.tuple #[.string r1, .bool r2]) ∧ Below w.heap.size w w' := by
  have HB := Aside0.mk (Below.refl w.heap.size w)
  have H : ((incipitref04_Table.f).bind fun t108 => (incipitref04_Named.l0 k a0 t108 0)) = some (r1, r2) := h
  clear h
  replace H := Option.bind_eq_some_iff.mp H
  obtain ⟨t108, A20, H⟩ := H
  replace H : (incipitref04_Named.l0 k a0 t108 0) = some (r1, r2) := H
  have A2 := Aside0.mk A20
  clear A20
  have H' := Aside0.mk H
  clear H
  go_enter Tryz.func39, Tryz.ntmps39
  go_wp2_with (first | ((with_reducible refine gate_callee (f := 53) rfl ?_); refine goesL_ (some 6) rfl rfl Tryz.func53 (by kernel_rfl) rfl #[] rfl (by (try simp only [List.map_toArray, List.map_cons, List.map_nil]); first | done | rfl | (simp only [List.length_drop, List.length_take]; rfl)) ?_; (with_reducible refine (incipitref04_Table.calls  t108 _ A2.out).mono ?_); rintro e w3 ⟨v109, rfl, ho0, hb⟩; refine ⟨_, rfl, ?_⟩; have n0_ := Aside0.mk (Kd.R_lower ho0 (below_size (by repeat (first | (with_reducible first | exact HB.out | apply below_alloc | apply pw_below_drewN | apply below_drew1) | exact HB.out)))); have n1_ := Aside0.mk (below_step (by repeat (first | (with_reducible first | exact HB.out | apply below_alloc | apply pw_below_drewN | apply below_drew1) | exact HB.out)) hb); clear HB; have HO110 := n0_; have HB := n1_; clear n0_ n1_; (try clear hb); (try clear hb2); (try clear hk); (try clear hi); (try clear ho0)))
  go_loopg [5] k (fun kq v5 w' => ∃ (x5_1 : Int), v5 = .int .i64 x5_1 ∧ Aside0 (incipitref04_Named.l0 kq a0 t108 x5_1 = some (r1, r2)) ∧ Aside0 (kq ≤ k) ∧ Aside0 (Kd.R k82 82 w' w.heap.size (fun _ => True) v109 t108) ∧ Aside0 (Below w.heap.size w w'))
  case atStart => exact ⟨(0), (by first | rfl | (simp; done) | (simp [*]; done)), H', ⟨Nat.le_refl _⟩, ⟨by (with_reducible repeat (first | apply Kd.R_alloc | apply Kd.R_drewN | apply Kd.R_drew)); exact HO110.out⟩, ⟨by repeat (first | (with_reducible first | exact HB.out | apply below_alloc | apply pw_below_drewN | apply below_drew1) | exact HB.out)⟩⟩
  case round =>
    clear H'
    try clear p2
    try clear c3
    obtain ⟨x5_1, rfl, HA, HK1, HO_4, HB⟩ := hrel
    cases gk with
    | zero => exact absurd HA.out (by simp [incipitref04_Named.l0])
    | succ k1 =>
      have H := HA.out
      clear HA
      simp only [incipitref04_Named.l0] at H
      by_cases c4 : x5_1 < (t108.length : Int)
      · rw [if_pos c4] at H
        have c4b0 : decide (x5_1 < (t108.length : Int)) = true := decide_eq_true c4
        clear c4
        by_cases c5 : 0 ≤ x5_1
        · rw [if_pos c5] at H
          have c5b0 : decide (0 ≤ x5_1) = true := decide_eq_true c5
          clear c5
          by_cases c6 : ((rd_T82 t108 x5_1).f0).toList = a0.toList
          · rw [if_pos c6] at H
            have c6b0 : (((rd_T82 t108 x5_1).f0).toList == a0.toList) = true := beq_iff_eq.mpr c6
            have c6b1 : (((rd_T82 t108 x5_1).f0).toList != a0.toList) = false := bne_eq_false_iff_eq.mpr c6
            clear c6
            simp only [Option.some.injEq, Prod.mk.injEq] at H
            obtain ⟨rfl, rfl⟩ := H
            obtain ⟨Ao7, co7, eo7⟩ := Kd.R_slice HO_4.out
            subst eo7
            have p111 : 0 ≤ (x5_1 : Int) := of_decide_eq_true (by first | (with_reducible assumption) | assumption)
            have q111 : x5_1 < (t108.length : Int) := of_decide_eq_true (by first | (with_reducible assumption) | assumption)
            obtain ⟨ad111, e111, hx111_0, hx111_1⟩ := at_T82 (Kd.R_reads' HO_4.out).2.2 x5_1 p111 q111
            cases e111
            replace p111 := eq_true p111
            replace q111 := eq_true q111
            have p112 : 0 ≤ (x5_1 : Int) := of_decide_eq_true (by first | (with_reducible assumption) | assumption)
            have q112 : x5_1 < (t108.length : Int) := of_decide_eq_true (by first | (with_reducible assumption) | assumption)
            obtain ⟨ad112, e112, hx112_0, hx112_1⟩ := at_T82 (Kd.R_reads' HO_4.out).2.2 x5_1 p112 q112
            obtain rfl : ad111 = ad112 := (by injection e112)
            replace p112 := eq_true p112
            replace q112 := eq_true q112
            go_wp2
            go_ret2
            exact ⟨by first | rfl | (simp [errW_none, errW_some] <;> rfl) | (simp [*, errW_none, errW_some] <;> rfl), by repeat (first | (with_reducible first | exact HB.out | apply below_alloc | apply pw_below_drewN | apply below_drew1) | exact HB.out)⟩
          · rw [if_neg c6] at H
            have c6b0 : (((rd_T82 t108 x5_1).f0).toList == a0.toList) = false := beq_eq_false_iff_ne.mpr c6
            have c6b1 : (((rd_T82 t108 x5_1).f0).toList != a0.toList) = true := bne_iff_ne.mpr c6
            have H' := Aside0.mk H
            clear H
            obtain ⟨Ao8, co8, eo8⟩ := Kd.R_slice HO_4.out
            subst eo8
            have p111 : 0 ≤ (x5_1 : Int) := of_decide_eq_true (by first | (with_reducible assumption) | assumption)
            have q111 : x5_1 < (t108.length : Int) := of_decide_eq_true (by first | (with_reducible assumption) | assumption)
            obtain ⟨ad111, e111, hx111_0, hx111_1⟩ := at_T82 (Kd.R_reads' HO_4.out).2.2 x5_1 p111 q111
            cases e111
            replace p111 := eq_true p111
            replace q111 := eq_true q111
            go_wp2
            go_roundg k1
            case measure => have := HK1.out; omega
            case rel => exact ⟨(wrap64 (x5_1 + 1)), (by first | rfl | (simp; done) | (simp [*]; done)), H', ⟨by have := HK1.out; omega⟩, ⟨by (with_reducible repeat (first | apply Kd.R_alloc | apply Kd.R_drewN | apply Kd.R_drew)); exact HO_4.out⟩, ⟨by repeat (first | (with_reducible first | exact HB.out | apply below_alloc | apply pw_below_drewN | apply below_drew1) | exact HB.out)⟩⟩
        · rw [if_neg c5] at H
          exact absurd H (by simp)
      · rw [if_neg c4] at H
        have c4b0 : decide (x5_1 < (t108.length : Int)) = false := decide_eq_false c4
        clear c4
        simp only [Option.some.injEq, Prod.mk.injEq] at H
        obtain ⟨rfl, rfl⟩ := H
        obtain ⟨Ao9, co9, eo9⟩ := Kd.R_slice HO_4.out
        subst eo9
        go_wp2
        go_ret2
        exact ⟨by first | rfl | (simp [errW_none, errW_some] <;> rfl) | (simp [*, errW_none, errW_some] <;> rfl), by repeat (first | (with_reducible first | exact HB.out | apply below_alloc | apply pw_below_drewN | apply below_drew1) | exact HB.out)⟩

end Go.Proofs.YtinpchebcnkckaaGreatDoor.PA
namespace Go.Proofs.YtinpchebcnkckaaGreatDoor.PA
open Go.RowKit Go.Proofs.YtinpchebcnkckaaGreatDoorW.PrintWords Go.Proofs.YtinpchebcnkckaaGreatDoorW.PrintLast Go.Proofs.YtinpchebcnkckaaGreatDoorW.PrintMore
attribute [local go_sem] max2_int min2_int max_two min_two max_three min_three max_four min_four   -- for this text's walks alone
set_option linter.unusedVariables false
set_option linter.unusedSimpArgs false

/-! ### incipitref04_number: function 40 -/
mutual
def incipitref04_number.j0 : Nat → ByteArray → Int → Bool → Option (Int)
  | 0, _, _, _ => none
  | k + 1, x0, x1, x19 => if x19 = true then (some (-1)) else (incipitref04_number.l0 k x0 x1 0 0)
def incipitref04_number.l0 : Nat → ByteArray → Int → Int → Int → Option (Int)
  | 0, _, _, _, _ => none
  | k + 1, x0, x1, x7, x8 => if x8 < (x0.size : Int) then (incipitref04_number.l1 k x0 x1 x7 x8 (-1) 0) else (some x7)
def incipitref04_number.l1 : Nat → ByteArray → Int → Int → Int → Int → Int → Option (Int)
  | 0, _, _, _, _, _, _ => none
  | k + 1, x0, x1, x7, x8, x9, x10 => if x10 < x1 then (if 0 ≤ x8 then (if x8 < (x0.size : Int) then (if 0 ≤ x10 then (if x10 < 16 then (if (bt x0 x8) = (bt (⟨#[48, 49, 50, 51, 52, 53, 54, 55, 56, 57, 97, 98, 99, 100, 101, 102]⟩ : ByteArray) x10) then (incipitref04_number.l1 k x0 x1 x7 x8 x10 (wrap64 (x10 + 1))) else (if (bt x0 x8) = (bt (⟨#[48, 49, 50, 51, 52, 53, 54, 55, 56, 57, 65, 66, 67, 68, 69, 70]⟩ : ByteArray) x10) then (incipitref04_number.l1 k x0 x1 x7 x8 x10 (wrap64 (x10 + 1))) else (incipitref04_number.l1 k x0 x1 x7 x8 x9 (wrap64 (x10 + 1))))) else (none)) else (none)) else (none)) else (none)) else (if x9 < 0 then (some (-1)) else (incipitref04_number.l0 k x0 x1 (wrap64 ((wrap64 (x7 * x1)) + x9)) (wrap64 (x8 + 1))))
end
def incipitref04_number.f (k : Nat) (a0 : ByteArray) (a1 : Int) (a2 : Int) : Option (Int) := if (a0.size : Int) = 0 then (incipitref04_number.j0 k a0 a1 true) else (incipitref04_number.j0 k a0 a1 (decide ((a0.size : Int) > a2)))
theorem incipitref04_number.mono_l : ∀ k, (∀ y0 y1 y2, LeO (incipitref04_number.j0 k y0 y1 y2) (incipitref04_number.j0 (k + 1) y0 y1 y2)) ∧ (∀ y0 y1 y2 y3, LeO (incipitref04_number.l0 k y0 y1 y2 y3) (incipitref04_number.l0 (k + 1) y0 y1 y2 y3)) ∧ (∀ y0 y1 y2 y3 y4 y5, LeO (incipitref04_number.l1 k y0 y1 y2 y3 y4 y5) (incipitref04_number.l1 (k + 1) y0 y1 y2 y3 y4 y5))
  | 0 => ⟨fun _ _ _ r h => by simp [incipitref04_number.j0] at h, fun _ _ _ _ r h => by simp [incipitref04_number.l0] at h, fun _ _ _ _ _ _ r h => by simp [incipitref04_number.l1] at h⟩
  | k + 1 => by
    obtain ⟨ih0, ih1, ih2⟩ := incipitref04_number.mono_l k
    refine ⟨?_, ?_, ?_⟩
    · intro y0 y1 y2
      unfold incipitref04_number.j0
      repeat' first
      | (with_reducible exact ih0 _ _ _)
      | (with_reducible exact ih1 _ _ _ _)
      | (with_reducible exact ih2 _ _ _ _ _ _)
      | (with_reducible exact LeO.refl _)
      | (with_reducible exact LeO.none _)
      | (with_reducible refine LeO.ite ?_ ?_)
      | (with_reducible refine LeO.bind ?_ (fun _ => ?_))
      | exact ih0 _ _ _
      | exact ih1 _ _ _ _
      | exact ih2 _ _ _ _ _ _
      | exact LeO.none _
      | refine LeO.ite ?_ ?_
      | refine LeO.bind ?_ (fun _ => ?_)
    · intro y0 y1 y2 y3
      unfold incipitref04_number.l0
      repeat' first
      | (with_reducible exact ih0 _ _ _)
      | (with_reducible exact ih1 _ _ _ _)
      | (with_reducible exact ih2 _ _ _ _ _ _)
      | (with_reducible exact LeO.refl _)
      | (with_reducible exact LeO.none _)
      | (with_reducible refine LeO.ite ?_ ?_)
      | (with_reducible refine LeO.bind ?_ (fun _ => ?_))
      | exact ih0 _ _ _
      | exact ih1 _ _ _ _
      | exact ih2 _ _ _ _ _ _
      | exact LeO.none _
      | refine LeO.ite ?_ ?_
      | refine LeO.bind ?_ (fun _ => ?_)
    · intro y0 y1 y2 y3 y4 y5
      unfold incipitref04_number.l1
      repeat' first
      | (with_reducible exact ih0 _ _ _)
      | (with_reducible exact ih1 _ _ _ _)
      | (with_reducible exact ih2 _ _ _ _ _ _)
      | (with_reducible exact LeO.refl _)
      | (with_reducible exact LeO.none _)
      | (with_reducible refine LeO.ite ?_ ?_)
      | (with_reducible refine LeO.bind ?_ (fun _ => ?_))
      | exact ih0 _ _ _
      | exact ih1 _ _ _ _
      | exact ih2 _ _ _ _ _ _
      | exact LeO.none _
      | refine LeO.ite ?_ ?_
      | refine LeO.bind ?_ (fun _ => ?_)
theorem incipitref04_number.mono : ∀ a0 a1 a2 k, LeO (incipitref04_number.f k a0 a1 a2) (incipitref04_number.f (k + 1) a0 a1 a2) := by
  intro a0 a1 a2 k
  obtain ⟨ih0, ih1, ih2⟩ := incipitref04_number.mono_l k
  unfold incipitref04_number.f
  repeat' first
      | (with_reducible exact ih0 _ _ _)
      | (with_reducible exact ih1 _ _ _ _)
      | (with_reducible exact ih2 _ _ _ _ _ _)
      | (with_reducible exact LeO.refl _)
      | (with_reducible exact LeO.none _)
      | (with_reducible refine LeO.ite ?_ ?_)
      | (with_reducible refine LeO.bind ?_ (fun _ => ?_))
      | exact ih0 _ _ _
      | exact ih1 _ _ _ _
      | exact ih2 _ _ _ _ _ _
      | exact LeO.none _
      | refine LeO.ite ?_ ?_
      | refine LeO.bind ?_ (fun _ => ?_)
set_option maxHeartbeats 8000000 in
set_option maxRecDepth 100000 in
theorem incipitref04_number.calls (k : Nat) (a0 : ByteArray) (a1 : Int) (a2 : Int) (r : Int) (w : World) (h : incipitref04_number.f k a0 a1 a2 = some r) :
    Calls Tryz.prog 40 #[.string a0, .int .i64 a1, .int .i64 a2] w fun e w' => e = .returned (.int .i64 r) ∧ Drawn0 w w' := by
  have H : (if (a0.size : Int) = 0 then (incipitref04_number.j0 k a0 a1 true) else (incipitref04_number.j0 k a0 a1 (decide ((a0.size : Int) > a2)))) = some r := h
  clear h
  have HC4 := Aside0.mk H
  clear H
  go_enter Tryz.func40, Tryz.ntmps40
  go_upto_region 1 with (fail)
  repeat (go_quiet (fail); go_upto_region 1 with (fail))
  go_cut [19] (fun v19 wc => ∃ (kq : Nat) (x19_3 : Bool), v19 = .bool x19_3 ∧ Aside0 (incipitref04_number.j0 kq a0 a1 x19_3 = some r) ∧ Aside0 (kq ≤ k) ∧ Drawn0 w wc)
  case first =>
    have H := HC4.out
    clear HC4
    by_cases c5 : (a0.size : Int) = 0
    · rw [if_pos c5] at H
      have c5b0 : ((a0.size : Int) == 0) = true := beq_iff_eq.mpr c5
      have c5b1 : ((a0.size : Int) != 0) = false := bne_eq_false_iff_eq.mpr c5
      clear c5
      (first | rw [c5b0] | (simp only [i64_w, i32_w]; rw [c5b0]) | skip)
      have H' := Aside0.mk H
      clear H
      go_wp2
      repeat (go_quiet (fail); try go_wp2)
      go_meet
      case rel => exact ⟨_, (true), (by first | rfl | (simp; done) | (simp [*]; done)), H', ⟨by first | omega | exact Nat.le_refl _⟩, by repeat (first | exact Drawn0.refl _ | apply Drawn0.step)⟩
    · rw [if_neg c5] at H
      have c5b0 : ((a0.size : Int) == 0) = false := beq_eq_false_iff_ne.mpr c5
      have c5b1 : ((a0.size : Int) != 0) = true := bne_iff_ne.mpr c5
      (first | rw [c5b0] | (simp only [i64_w, i32_w]; rw [c5b0]) | skip)
      have H' := Aside0.mk H
      clear H
      go_wp2
      repeat (go_quiet (fail); try go_wp2)
      go_meet
      case rel => exact ⟨_, (decide ((a0.size : Int) > a2)), (by first | rfl | (simp; done) | (simp [*]; done)), H', ⟨by first | omega | exact Nat.le_refl _⟩, by repeat (first | exact Drawn0.refl _ | apply Drawn0.step)⟩
  case rest =>
    clear HC4
    try clear p2
    try clear c4
    try clear c5
    try clear c5b0
    try clear c5b1
    obtain ⟨kq, x19_3, rfl, HA, HJ3, ⟨mc3, rfl⟩⟩ := hcut
    cases kq with
    | zero => exact absurd HA.out (by simp [incipitref04_number.j0])
    | succ kj3 =>
      have H := HA.out
      clear HA
      simp only [incipitref04_number.j0] at H
      by_cases c6 : x19_3 = true
      · subst c6
        have H1 : (some (-1)) = some r := by rw [if_pos rfl] at H; exact H
        clear H
        have H := H1
        clear H1
        obtain rfl := Option.some.inj H
        go_wp2
        repeat (go_quiet (fail); try go_wp2)
        go_ret
        exact ⟨by first | rfl | (simp; done) | (simp [*]; done), by repeat (first | exact Drawn0.refl _ | apply Drawn0.step)⟩
      · replace c6 := Bool.eq_false_iff.mpr c6
        subst c6
        have H1 : (incipitref04_number.l0 kj3 a0 a1 0 0) = some r := by rw [if_neg (show ¬ (false = true) by decide)] at H; exact H
        clear H
        have H := H1
        clear H1
        have H' := Aside0.mk H
        clear H
        go_wp2
        repeat (go_quiet (fail); try go_wp2)
        go_loopg [7, 8] kj3 (fun kq v7 v8 w' => ∃ (x7_2 : Int) (x8_2 : Int), v7 = .int .i64 x7_2 ∧ v8 = .int .i64 x8_2 ∧ Aside0 (incipitref04_number.l0 kq a0 a1 x7_2 x8_2 = some r) ∧ Aside0 (kq ≤ kj3) ∧ Drawn0 w w')
        case atStart => exact ⟨(0), (0), (by first | rfl | (simp; done) | (simp [*]; done)), (by first | rfl | (simp; done) | (simp [*]; done)), H', ⟨Nat.le_refl _⟩, by repeat (first | exact Drawn0.refl _ | apply Drawn0.step)⟩
        case round =>
          clear H'
          try clear p2
          try clear c3
          try clear c4
          try clear c5
          try clear c5b0
          try clear c5b1
          try clear c6
          try clear p2
          obtain ⟨x7_2, x8_2, rfl, rfl, HA, HK2, ⟨m2, rfl⟩⟩ := hrel
          cases gk with
          | zero => exact absurd HA.out (by simp [incipitref04_number.l0])
          | succ k2 =>
            have H := HA.out
            clear HA
            simp only [incipitref04_number.l0] at H
            by_cases c7 : x8_2 < (a0.size : Int)
            · rw [if_pos c7] at H
              have c7b0 : decide (x8_2 < (a0.size : Int)) = true := decide_eq_true c7
              clear c7
              have H' := Aside0.mk H
              clear H
              go_wp2
              repeat (go_quiet (fail); try go_wp2)
              go_loopg [9, 10] k2 (fun kq v9 v10 w' => ∃ (x9_3 : Int) (x10_3 : Int), v9 = .int .i64 x9_3 ∧ v10 = .int .i64 x10_3 ∧ Aside0 (incipitref04_number.l1 kq a0 a1 x7_2 x8_2 x9_3 x10_3 = some r) ∧ Aside0 (kq ≤ k2) ∧ Drawn0 w w')
              case atStart => exact ⟨((-1)), (0), (by first | rfl | (simp; done) | (simp [*]; done)), (by first | rfl | (simp; done) | (simp [*]; done)), H', ⟨Nat.le_refl _⟩, by repeat (first | exact Drawn0.refl _ | apply Drawn0.step)⟩
              case round =>
                clear H'
                try clear p2
                try clear c3
                try clear c4
                try clear c5
                try clear c5b0
                try clear c5b1
                try clear c6
                try clear c7
                try clear c7b0
                try clear p2
                obtain ⟨x9_3, x10_3, rfl, rfl, HA, HK3, ⟨m3, rfl⟩⟩ := hrel
                cases gk with
                | zero => exact absurd HA.out (by simp [incipitref04_number.l1])
                | succ k3 =>
                  have H := HA.out
                  clear HA
                  simp only [incipitref04_number.l1] at H
                  by_cases c8 : x10_3 < a1
                  · rw [if_pos c8] at H
                    have c8b0 : decide (x10_3 < a1) = true := decide_eq_true c8
                    clear c8
                    by_cases c9 : 0 ≤ x8_2
                    · rw [if_pos c9] at H
                      have c9b0 : decide (0 ≤ x8_2) = true := decide_eq_true c9
                      clear c9
                      by_cases c10 : x8_2 < (a0.size : Int)
                      · rw [if_pos c10] at H
                        have c10b0 : decide (x8_2 < (a0.size : Int)) = true := decide_eq_true c10
                        clear c10
                        by_cases c12 : 0 ≤ x10_3
                        · rw [if_pos c12] at H
                          have c12b0 : decide (0 ≤ x10_3) = true := decide_eq_true c12
                          clear c12
                          by_cases c13 : x10_3 < 16
                          · rw [if_pos c13] at H
                            have c13b0 : decide (x10_3 < 16) = true := decide_eq_true c13
                            clear c13
                            by_cases c15 : (bt a0 x8_2) = (bt (⟨#[48, 49, 50, 51, 52, 53, 54, 55, 56, 57, 97, 98, 99, 100, 101, 102]⟩ : ByteArray) x10_3)
                            · rw [if_pos c15] at H
                              have c15b0 : ((bt a0 x8_2) == (bt (⟨#[48, 49, 50, 51, 52, 53, 54, 55, 56, 57, 97, 98, 99, 100, 101, 102]⟩ : ByteArray) x10_3)) = true := beq_iff_eq.mpr c15
                              have c15b1 : ((bt a0 x8_2) != (bt (⟨#[48, 49, 50, 51, 52, 53, 54, 55, 56, 57, 97, 98, 99, 100, 101, 102]⟩ : ByteArray) x10_3)) = false := bne_eq_false_iff_eq.mpr c15
                              clear c15
                              have H' := Aside0.mk H
                              clear H
                              have p11 : 0 ≤ (x8_2 : Int) := of_decide_eq_true (by first | (with_reducible assumption) | assumption)
                              have q11 : x8_2 < (a0.size : Int) := of_decide_eq_true (by first | (with_reducible assumption) | assumption)
                              have hx11 := bt_at a0 x8_2
                              replace p11 := eq_true p11
                              replace q11 := eq_true q11
                              have p14 : 0 ≤ (x10_3 : Int) := of_decide_eq_true (by first | (with_reducible assumption) | assumption)
                              have q14 : x10_3 < (16 : Int) := of_decide_eq_true (by first | (with_reducible assumption) | assumption)
                              have hx14 := bt_at (⟨#[48, 49, 50, 51, 52, 53, 54, 55, 56, 57, 97, 98, 99, 100, 101, 102]⟩ : ByteArray) x10_3
                              replace p14 := eq_true p14
                              replace q14 := eq_true q14
                              go_wp2
                              repeat (go_quiet (fail); try go_wp2)
                              go_roundg k3
                              case measure => have := HJ3.out; have := HK2.out; have := HK3.out; omega
                              case rel => exact ⟨(x10_3), (wrap64 (x10_3 + 1)), (by first | rfl | (simp; done) | (simp [*]; done)), (by first | rfl | (simp; done) | (simp [*]; done)), H', ⟨by have := HJ3.out; have := HK2.out; have := HK3.out; omega⟩, by repeat (first | exact Drawn0.refl _ | apply Drawn0.step)⟩
                            · rw [if_neg c15] at H
                              have c15b0 : ((bt a0 x8_2) == (bt (⟨#[48, 49, 50, 51, 52, 53, 54, 55, 56, 57, 97, 98, 99, 100, 101, 102]⟩ : ByteArray) x10_3)) = false := beq_eq_false_iff_ne.mpr c15
                              have c15b1 : ((bt a0 x8_2) != (bt (⟨#[48, 49, 50, 51, 52, 53, 54, 55, 56, 57, 97, 98, 99, 100, 101, 102]⟩ : ByteArray) x10_3)) = true := bne_iff_ne.mpr c15
                              by_cases c18 : (bt a0 x8_2) = (bt (⟨#[48, 49, 50, 51, 52, 53, 54, 55, 56, 57, 65, 66, 67, 68, 69, 70]⟩ : ByteArray) x10_3)
                              · rw [if_pos c18] at H
                                have c18b0 : ((bt a0 x8_2) == (bt (⟨#[48, 49, 50, 51, 52, 53, 54, 55, 56, 57, 65, 66, 67, 68, 69, 70]⟩ : ByteArray) x10_3)) = true := beq_iff_eq.mpr c18
                                have c18b1 : ((bt a0 x8_2) != (bt (⟨#[48, 49, 50, 51, 52, 53, 54, 55, 56, 57, 65, 66, 67, 68, 69, 70]⟩ : ByteArray) x10_3)) = false := bne_eq_false_iff_eq.mpr c18
                                clear c18
                                have H' := Aside0.mk H
                                clear H
                                have p11 : 0 ≤ (x8_2 : Int) := of_decide_eq_true (by first | (with_reducible assumption) | assumption)
                                have q11 : x8_2 < (a0.size : Int) := of_decide_eq_true (by first | (with_reducible assumption) | assumption)
                                have hx11 := bt_at a0 x8_2
                                replace p11 := eq_true p11
                                replace q11 := eq_true q11
                                have p14 : 0 ≤ (x10_3 : Int) := of_decide_eq_true (by first | (with_reducible assumption) | assumption)
                                have q14 : x10_3 < (16 : Int) := of_decide_eq_true (by first | (with_reducible assumption) | assumption)
                                have hx14 := bt_at (⟨#[48, 49, 50, 51, 52, 53, 54, 55, 56, 57, 97, 98, 99, 100, 101, 102]⟩ : ByteArray) x10_3
                                replace p14 := eq_true p14
                                replace q14 := eq_true q14
                                have p16 : 0 ≤ (x8_2 : Int) := of_decide_eq_true (by first | (with_reducible assumption) | assumption)
                                have q16 : x8_2 < (a0.size : Int) := of_decide_eq_true (by first | (with_reducible assumption) | assumption)
                                have hx16 := bt_at a0 x8_2
                                replace p16 := eq_true p16
                                replace q16 := eq_true q16
                                have p17 : 0 ≤ (x10_3 : Int) := of_decide_eq_true (by first | (with_reducible assumption) | assumption)
                                have q17 : x10_3 < (16 : Int) := of_decide_eq_true (by first | (with_reducible assumption) | assumption)
                                have hx17 := bt_at (⟨#[48, 49, 50, 51, 52, 53, 54, 55, 56, 57, 65, 66, 67, 68, 69, 70]⟩ : ByteArray) x10_3
                                replace p17 := eq_true p17
                                replace q17 := eq_true q17
                                go_wp2
                                repeat (go_quiet (fail); try go_wp2)
                                go_roundg k3
                                case measure => have := HJ3.out; have := HK2.out; have := HK3.out; omega
                                case rel => exact ⟨(x10_3), (wrap64 (x10_3 + 1)), (by first | rfl | (simp; done) | (simp [*]; done)), (by first | rfl | (simp; done) | (simp [*]; done)), H', ⟨by have := HJ3.out; have := HK2.out; have := HK3.out; omega⟩, by repeat (first | exact Drawn0.refl _ | apply Drawn0.step)⟩
                              · rw [if_neg c18] at H
                                have c18b0 : ((bt a0 x8_2) == (bt (⟨#[48, 49, 50, 51, 52, 53, 54, 55, 56, 57, 65, 66, 67, 68, 69, 70]⟩ : ByteArray) x10_3)) = false := beq_eq_false_iff_ne.mpr c18
                                have c18b1 : ((bt a0 x8_2) != (bt (⟨#[48, 49, 50, 51, 52, 53, 54, 55, 56, 57, 65, 66, 67, 68, 69, 70]⟩ : ByteArray) x10_3)) = true := bne_iff_ne.mpr c18
                                have H' := Aside0.mk H
                                clear H
                                have p11 : 0 ≤ (x8_2 : Int) := of_decide_eq_true (by first | (with_reducible assumption) | assumption)
                                have q11 : x8_2 < (a0.size : Int) := of_decide_eq_true (by first | (with_reducible assumption) | assumption)
                                have hx11 := bt_at a0 x8_2
                                replace p11 := eq_true p11
                                replace q11 := eq_true q11
                                have p14 : 0 ≤ (x10_3 : Int) := of_decide_eq_true (by first | (with_reducible assumption) | assumption)
                                have q14 : x10_3 < (16 : Int) := of_decide_eq_true (by first | (with_reducible assumption) | assumption)
                                have hx14 := bt_at (⟨#[48, 49, 50, 51, 52, 53, 54, 55, 56, 57, 97, 98, 99, 100, 101, 102]⟩ : ByteArray) x10_3
                                replace p14 := eq_true p14
                                replace q14 := eq_true q14
                                have p16 : 0 ≤ (x8_2 : Int) := of_decide_eq_true (by first | (with_reducible assumption) | assumption)
                                have q16 : x8_2 < (a0.size : Int) := of_decide_eq_true (by first | (with_reducible assumption) | assumption)
                                have hx16 := bt_at a0 x8_2
                                replace p16 := eq_true p16
                                replace q16 := eq_true q16
                                have p17 : 0 ≤ (x10_3 : Int) := of_decide_eq_true (by first | (with_reducible assumption) | assumption)
                                have q17 : x10_3 < (16 : Int) := of_decide_eq_true (by first | (with_reducible assumption) | assumption)
                                have hx17 := bt_at (⟨#[48, 49, 50, 51, 52, 53, 54, 55, 56, 57, 65, 66, 67, 68, 69, 70]⟩ : ByteArray) x10_3
                                replace p17 := eq_true p17
                                replace q17 := eq_true q17
                                go_wp2
                                repeat (go_quiet (fail); try go_wp2)
                                go_roundg k3
                                case measure => have := HJ3.out; have := HK2.out; have := HK3.out; omega
                                case rel => exact ⟨(x9_3), (wrap64 (x10_3 + 1)), (by first | rfl | (simp; done) | (simp [*]; done)), (by first | rfl | (simp; done) | (simp [*]; done)), H', ⟨by have := HJ3.out; have := HK2.out; have := HK3.out; omega⟩, by repeat (first | exact Drawn0.refl _ | apply Drawn0.step)⟩
                          · rw [if_neg c13] at H
                            exact absurd H (by simp)
                        · rw [if_neg c12] at H
                          exact absurd H (by simp)
                      · rw [if_neg c10] at H
                        exact absurd H (by simp)
                    · rw [if_neg c9] at H
                      exact absurd H (by simp)
                  · rw [if_neg c8] at H
                    have c8b0 : decide (x10_3 < a1) = false := decide_eq_false c8
                    clear c8
                    by_cases c19 : x9_3 < 0
                    · rw [if_pos c19] at H
                      have c19b0 : decide (x9_3 < 0) = true := decide_eq_true c19
                      clear c19
                      obtain rfl := Option.some.inj H
                      go_wp2
                      repeat (go_quiet (fail); try go_wp2)
                      go_ret
                      exact ⟨by first | rfl | (simp; done) | (simp [*]; done), by repeat (first | exact Drawn0.refl _ | apply Drawn0.step)⟩
                    · rw [if_neg c19] at H
                      have c19b0 : decide (x9_3 < 0) = false := decide_eq_false c19
                      clear c19
                      have H' := Aside0.mk H
                      clear H
                      go_wp2
                      repeat (go_quiet (fail); try go_wp2)
                      go_roundg k3
                      case measure => have := HJ3.out; have := HK2.out; have := HK3.out; omega
                      case rel => exact ⟨(wrap64 ((wrap64 (x7_2 * a1)) + x9_3)), (wrap64 (x8_2 + 1)), (by first | rfl | (simp; done) | (simp [*]; done)), (by first | rfl | (simp; done) | (simp [*]; done)), H', ⟨by have := HJ3.out; have := HK2.out; have := HK3.out; omega⟩, by repeat (first | exact Drawn0.refl _ | apply Drawn0.step)⟩
            · rw [if_neg c7] at H
              have c7b0 : decide (x8_2 < (a0.size : Int)) = false := decide_eq_false c7
              clear c7
              obtain rfl := Option.some.inj H
              go_wp2
              repeat (go_quiet (fail); try go_wp2)
              go_ret
              exact ⟨by first | rfl | (simp; done) | (simp [*]; done), by repeat (first | exact Drawn0.refl _ | apply Drawn0.step)⟩

end Go.Proofs.YtinpchebcnkckaaGreatDoor.PA
namespace Go.Proofs.YtinpchebcnkckaaGreatDoor.PA
open Go.RowKit Go.Proofs.YtinpchebcnkckaaGreatDoorW.PrintWords Go.Proofs.YtinpchebcnkckaaGreatDoorW.PrintLast Go.Proofs.YtinpchebcnkckaaGreatDoorW.PrintMore
attribute [local go_sem] max2_int min2_int max_two min_two max_three min_three max_four min_four   -- for this text's walks alone
set_option linter.unusedVariables false
set_option linter.unusedSimpArgs false

/-! ### incipitref04_Read: function 29 -/
mutual
def incipitref04_Read.j0 : Nat → ByteArray → Int → Bool → Option (ByteArray × Int)
  | 0, _, _, _ => none
  | k + 1, x0, x4, x16 => if x16 = true then (some ((⟨#[]⟩ : ByteArray), 0)) else (if 1 < (x0.size : Int) then (if (bt x0 1) = 35 then (if x4 > 2 then (if 2 < (x0.size : Int) then (if (bt x0 2) = 120 then (incipitref04_Read.j1 k x0 x4 true) else (incipitref04_Read.j1 k x0 x4 ((bt x0 2) == 88))) else (none)) else (incipitref04_Read.j1 k x0 x4 false)) else (if 1 ≤ x4 then (if x4 ≤ (x0.size : Int) then ((incipitref04_Named.f k (x0.extract 1 (x4 : Int).toNat)).bind fun bt114 => (if bt114.2 = true then (some (bt114.1, wrap64 (x4 + 1))) else (some ((⟨#[]⟩ : ByteArray), 0)))) else (none)) else (none))) else (none))
def incipitref04_Read.j1 : Nat → ByteArray → Int → Bool → Option (ByteArray × Int)
  | 0, _, _, _ => none
  | k + 1, x0, x4, x43 => if x43 = true then (if 3 ≤ x4 then (if x4 ≤ (x0.size : Int) then ((incipitref04_number.f k (x0.extract 3 (x4 : Int).toNat) 16 6).bind fun t116 => (incipitref04_Read.j2 k x4 t116)) else (none)) else (none)) else (if 2 ≤ x4 then (if x4 ≤ (x0.size : Int) then ((incipitref04_number.f k (x0.extract 2 (x4 : Int).toNat) 10 7).bind fun t117 => (incipitref04_Read.j2 k x4 t117)) else (none)) else (none))
def incipitref04_Read.j2 : Nat → Int → Int → Option (ByteArray × Int)
  | 0, _, _ => none
  | k + 1, x4, x5 => if x5 < 0 then (some ((⟨#[]⟩ : ByteArray), 0)) else (if x5 = 0 then (some ((Go.Utf8.encode 65533), wrap64 (x4 + 1))) else (if x5 ≥ 55296 then (if x5 ≤ 57343 then (some ((Go.Utf8.encode 65533), wrap64 (x4 + 1))) else (if x5 > 1114111 then (some ((Go.Utf8.encode 65533), wrap64 (x4 + 1))) else (some ((Go.Utf8.encode (wrap32 (x5))), wrap64 (x4 + 1))))) else (if x5 > 1114111 then (some ((Go.Utf8.encode 65533), wrap64 (x4 + 1))) else (some ((Go.Utf8.encode (wrap32 (x5))), wrap64 (x4 + 1))))))
end
def incipitref04_Read.f (k : Nat) (a0 : ByteArray) : Option (ByteArray × Int) := (incipitref04_end.f k a0).bind fun t113 => (if t113 < 2 then (incipitref04_Read.j0 k a0 t113 true) else (if 0 < (a0.size : Int) then (incipitref04_Read.j0 k a0 t113 ((bt a0 0) != 38)) else (none)))
theorem incipitref04_Read.mono_l : ∀ k, (∀ y0 y1 y2, LeO (incipitref04_Read.j0 k y0 y1 y2) (incipitref04_Read.j0 (k + 1) y0 y1 y2)) ∧ (∀ y0 y1 y2, LeO (incipitref04_Read.j1 k y0 y1 y2) (incipitref04_Read.j1 (k + 1) y0 y1 y2)) ∧ (∀ y0 y1, LeO (incipitref04_Read.j2 k y0 y1) (incipitref04_Read.j2 (k + 1) y0 y1))
  | 0 => ⟨fun _ _ _ r h => by simp [incipitref04_Read.j0] at h, fun _ _ _ r h => by simp [incipitref04_Read.j1] at h, fun _ _ r h => by simp [incipitref04_Read.j2] at h⟩
  | k + 1 => by
    obtain ⟨ih0, ih1, ih2⟩ := incipitref04_Read.mono_l k
    refine ⟨?_, ?_, ?_⟩
    · intro y0 y1 y2
      unfold incipitref04_Read.j0
      repeat' first
      | (with_reducible exact ih0 _ _ _)
      | (with_reducible exact ih1 _ _ _)
      | (with_reducible exact ih2 _ _)
      | (with_reducible exact incipitref04_Named.mono _ _)
      | (with_reducible exact incipitref04_end.mono _ _)
      | (with_reducible exact incipitref04_number.mono _ _ _ _)
      | (with_reducible exact LeO.refl _)
      | (with_reducible exact LeO.none _)
      | (with_reducible refine LeO.ite ?_ ?_)
      | (with_reducible refine LeO.bind ?_ (fun _ => ?_))
      | exact ih0 _ _ _
      | exact ih1 _ _ _
      | exact ih2 _ _
      | exact incipitref04_Named.mono _ _
      | exact incipitref04_end.mono _ _
      | exact incipitref04_number.mono _ _ _ _
      | exact LeO.none _
      | refine LeO.ite ?_ ?_
      | refine LeO.bind ?_ (fun _ => ?_)
    · intro y0 y1 y2
      unfold incipitref04_Read.j1
      repeat' first
      | (with_reducible exact ih0 _ _ _)
      | (with_reducible exact ih1 _ _ _)
      | (with_reducible exact ih2 _ _)
      | (with_reducible exact incipitref04_Named.mono _ _)
      | (with_reducible exact incipitref04_end.mono _ _)
      | (with_reducible exact incipitref04_number.mono _ _ _ _)
      | (with_reducible exact LeO.refl _)
      | (with_reducible exact LeO.none _)
      | (with_reducible refine LeO.ite ?_ ?_)
      | (with_reducible refine LeO.bind ?_ (fun _ => ?_))
      | exact ih0 _ _ _
      | exact ih1 _ _ _
      | exact ih2 _ _
      | exact incipitref04_Named.mono _ _
      | exact incipitref04_end.mono _ _
      | exact incipitref04_number.mono _ _ _ _
      | exact LeO.none _
      | refine LeO.ite ?_ ?_
      | refine LeO.bind ?_ (fun _ => ?_)
    · intro y0 y1
      unfold incipitref04_Read.j2
      repeat' first
      | (with_reducible exact ih0 _ _ _)
      | (with_reducible exact ih1 _ _ _)
      | (with_reducible exact ih2 _ _)
      | (with_reducible exact incipitref04_Named.mono _ _)
      | (with_reducible exact incipitref04_end.mono _ _)
      | (with_reducible exact incipitref04_number.mono _ _ _ _)
      | (with_reducible exact LeO.refl _)
      | (with_reducible exact LeO.none _)
      | (with_reducible refine LeO.ite ?_ ?_)
      | (with_reducible refine LeO.bind ?_ (fun _ => ?_))
      | exact ih0 _ _ _
      | exact ih1 _ _ _
      | exact ih2 _ _
      | exact incipitref04_Named.mono _ _
      | exact incipitref04_end.mono _ _
      | exact incipitref04_number.mono _ _ _ _
      | exact LeO.none _
      | refine LeO.ite ?_ ?_
      | refine LeO.bind ?_ (fun _ => ?_)
theorem incipitref04_Read.mono : ∀ a0 k, LeO (incipitref04_Read.f k a0) (incipitref04_Read.f (k + 1) a0) := by
  intro a0 k
  obtain ⟨ih0, ih1, ih2⟩ := incipitref04_Read.mono_l k
  unfold incipitref04_Read.f
  repeat' first
      | (with_reducible exact ih0 _ _ _)
      | (with_reducible exact ih1 _ _ _)
      | (with_reducible exact ih2 _ _)
      | (with_reducible exact incipitref04_Named.mono _ _)
      | (with_reducible exact incipitref04_end.mono _ _)
      | (with_reducible exact incipitref04_number.mono _ _ _ _)
      | (with_reducible exact LeO.refl _)
      | (with_reducible exact LeO.none _)
      | (with_reducible refine LeO.ite ?_ ?_)
      | (with_reducible refine LeO.bind ?_ (fun _ => ?_))
      | exact ih0 _ _ _
      | exact ih1 _ _ _
      | exact ih2 _ _
      | exact incipitref04_Named.mono _ _
      | exact incipitref04_end.mono _ _
      | exact incipitref04_number.mono _ _ _ _
      | exact LeO.none _
      | refine LeO.ite ?_ ?_
      | refine LeO.bind ?_ (fun _ => ?_)
set_option maxHeartbeats 8000000 in
set_option maxRecDepth 100000 in
theorem incipitref04_Read.calls (k : Nat) (a0 : ByteArray) (r1 : ByteArray) (r2 : Int) (w : World) (h : incipitref04_Read.f k a0 = some (r1, r2)) :
    Calls Tryz.prog 29 #[.string a0] w fun e w' => e = .returned (.tuple #[.string r1, .int .i64 r2]) ∧ Below w.heap.size w w' := by
  have HB := Aside0.mk (Below.refl w.heap.size w)
  have H : ((incipitref04_end.f k a0).bind fun t113 => (if t113 < 2 then (incipitref04_Read.j0 k a0 t113 true) else (if 0 < (a0.size : Int) then (incipitref04_Read.j0 k a0 t113 ((bt a0 0) != 38)) else (none)))) = some (r1, r2) := h
  clear h
  replace H := Option.bind_eq_some_iff.mp H
  obtain ⟨t113, A20, H⟩ := H
  replace H : (if t113 < 2 then (incipitref04_Read.j0 k a0 t113 true) else (if 0 < (a0.size : Int) then (incipitref04_Read.j0 k a0 t113 ((bt a0 0) != 38)) else (none))) = some (r1, r2) := H
  have A2 := Aside0.mk A20
  clear A20
  have HC3 := Aside0.mk H
  clear H
  go_enter Tryz.func29, Tryz.ntmps29
  go_upto_region 2 with (first | ((with_reducible refine gate_callee (f := 38) rfl ?_); refine goesL_ (some 9) rfl rfl Tryz.func38 (by kernel_rfl) rfl #[.string a0] rfl (by (try simp only [List.map_toArray, List.map_cons, List.map_nil]); first | done | rfl | (simp only [List.length_drop, List.length_take]; rfl)) ?_; (with_reducible refine (incipitref04_end.calls k a0 t113 _ A2.out).mono ?_); rintro e w' ⟨rfl, ⟨nd, rfl⟩⟩; refine ⟨_, rfl, ?_⟩))
  (try simp only [Act.put, List.setIfInBounds_toArray, List.set_cons_zero, List.set_cons_succ])
  go_cut [16] (fun v16 wc => ∃ (kq : Nat) (x16_2 : Bool), v16 = .bool x16_2 ∧ Aside0 (incipitref04_Read.j0 kq a0 t113 x16_2 = some (r1, r2)) ∧ Aside0 (kq ≤ k) ∧ Aside0 (Below w.heap.size w wc))
  case first =>
    have H := HC3.out
    clear HC3
    by_cases c4 : t113 < 2
    · rw [if_pos c4] at H
      have c4b0 : decide (t113 < 2) = true := decide_eq_true c4
      clear c4
      (first | rw [c4b0] | (simp only [i64_w, i32_w]; rw [c4b0]) | skip)
      have H' := Aside0.mk H
      clear H
      go_wp2
      go_meet
      case rel => exact ⟨_, (true), (by first | rfl | (simp; done) | (simp [*]; done)), H', ⟨by first | omega | exact Nat.le_refl _⟩, ⟨by repeat (first | (with_reducible first | exact HB.out | apply below_alloc | apply pw_below_drewN | apply below_drew1) | exact HB.out)⟩⟩
    · rw [if_neg c4] at H
      have c4b0 : decide (t113 < 2) = false := decide_eq_false c4
      clear c4
      (first | rw [c4b0] | (simp only [i64_w, i32_w]; rw [c4b0]) | skip)
      by_cases c5 : 0 < (a0.size : Int)
      · rw [if_pos c5] at H
        have c5b0 : decide (0 < (a0.size : Int)) = true := decide_eq_true c5
        have c5b1 : decide (0 < a0.size) = true := decide_eq_true (by omega)
        clear c5
        have H' := Aside0.mk H
        clear H
        have p6 : 0 ≤ (0 : Int) := (by omega)
        have q6 : 0 < a0.size := (by have : (0 : Int) < (a0.size : Int) := of_decide_eq_true (by first | (with_reducible assumption) | assumption); omega)
        have hx6 : ∀ h : 0 < a0.size, ((a0[0]'h).toNat : Int) = bt a0 0 := bt_at a0 0
        clear p6
        have qi6 : (0 < (a0.size : Int)) = True := eq_true (of_decide_eq_true (by first | (with_reducible assumption) | assumption))
        replace q6 := eq_true q6
        go_wp2
        go_meet
        case rel => exact ⟨_, (((bt a0 0) != 38)), (by first | rfl | (simp; done) | (simp [*]; done)), H', ⟨by first | omega | exact Nat.le_refl _⟩, ⟨by repeat (first | (with_reducible first | exact HB.out | apply below_alloc | apply pw_below_drewN | apply below_drew1) | exact HB.out)⟩⟩
      · rw [if_neg c5] at H
        exact absurd H (by simp)
  case rest =>
    clear HC3
    try clear c2
    try clear p2
    try clear c3
    try clear c4
    try clear c4b0
    try clear c5
    try clear c5b0
    try clear c5b1
    try clear p6
    try clear q6
    try clear hx6
    try clear qi6
    try clear p6
    try clear q6
    obtain ⟨kq, x16_2, rfl, HA, HJ2, HB⟩ := hcut
    cases kq with
    | zero => exact absurd HA.out (by simp [incipitref04_Read.j0])
    | succ kj2 =>
      have H := HA.out
      clear HA
      simp only [incipitref04_Read.j0] at H
      by_cases c7 : x16_2 = true
      · subst c7
        have H1 : (some ((⟨#[]⟩ : ByteArray), 0)) = some (r1, r2) := by rw [if_pos rfl] at H; exact H
        clear H
        have H := H1
        clear H1
        simp only [Option.some.injEq, Prod.mk.injEq] at H
        obtain ⟨rfl, rfl⟩ := H
        go_wp2
        go_ret2
        exact ⟨by first | rfl | (simp [errW_none, errW_some] <;> rfl) | (simp [*, errW_none, errW_some] <;> rfl), by repeat (first | (with_reducible first | exact HB.out | apply below_alloc | apply pw_below_drewN | apply below_drew1) | exact HB.out)⟩
      · replace c7 := Bool.eq_false_iff.mpr c7
        subst c7
        have H1 : (if 1 < (a0.size : Int) then (if (bt a0 1) = 35 then (if t113 > 2 then (if 2 < (a0.size : Int) then (if (bt a0 2) = 120 then (incipitref04_Read.j1 kj2 a0 t113 true) else (incipitref04_Read.j1 kj2 a0 t113 ((bt a0 2) == 88))) else (none)) else (incipitref04_Read.j1 kj2 a0 t113 false)) else (if 1 ≤ t113 then (if t113 ≤ (a0.size : Int) then ((incipitref04_Named.f kj2 (a0.extract 1 (t113 : Int).toNat)).bind fun bt114 => (if bt114.2 = true then (some (bt114.1, wrap64 (t113 + 1))) else (some ((⟨#[]⟩ : ByteArray), 0)))) else (none)) else (none))) else (none)) = some (r1, r2) := by rw [if_neg (show ¬ (false = true) by decide)] at H; exact H
        clear H
        have H := H1
        clear H1
        by_cases c8 : 1 < (a0.size : Int)
        · rw [if_pos c8] at H
          have c8b0 : decide (1 < (a0.size : Int)) = true := decide_eq_true c8
          have c8b1 : decide (1 < a0.size) = true := decide_eq_true (by omega)
          clear c8
          by_cases c10 : (bt a0 1) = 35
          · rw [if_pos c10] at H
            have c10b0 : ((bt a0 1) == 35) = true := beq_iff_eq.mpr c10
            have c10b1 : ((bt a0 1) != 35) = false := bne_eq_false_iff_eq.mpr c10
            clear c10
            have HC11 := Aside0.mk H
            clear H
            have p9 : 0 ≤ (1 : Int) := (by omega)
            have q9 : 1 < a0.size := (by have : (1 : Int) < (a0.size : Int) := of_decide_eq_true (by first | (with_reducible assumption) | assumption); omega)
            have hx9 : ∀ h : 1 < a0.size, ((a0[1]'h).toNat : Int) = bt a0 1 := bt_at a0 1
            clear p9
            have qi9 : (1 < (a0.size : Int)) = True := eq_true (of_decide_eq_true (by first | (with_reducible assumption) | assumption))
            replace q9 := eq_true q9
            go_upto_region 10 with (fail)
            go_cut [43] (fun v43 wc => ∃ (kq : Nat) (x43_10 : Bool), v43 = .bool x43_10 ∧ Aside0 (incipitref04_Read.j1 kq a0 t113 x43_10 = some (r1, r2)) ∧ Aside0 (kq ≤ kj2) ∧ Aside0 (Below w.heap.size w wc))
            case first =>
              have H := HC11.out
              clear HC11
              by_cases c12 : t113 > 2
              · rw [if_pos c12] at H
                have c12b0 : decide (2 < t113) = true := decide_eq_true c12
                clear c12
                (first | rw [c12b0] | (simp only [i64_w, i32_w]; rw [c12b0]) | skip)
                by_cases c13 : 2 < (a0.size : Int)
                · rw [if_pos c13] at H
                  have c13b0 : decide (2 < (a0.size : Int)) = true := decide_eq_true c13
                  have c13b1 : decide (2 < a0.size) = true := decide_eq_true (by omega)
                  clear c13
                  by_cases c15 : (bt a0 2) = 120
                  · rw [if_pos c15] at H
                    have c15b0 : ((bt a0 2) == 120) = true := beq_iff_eq.mpr c15
                    have c15b1 : ((bt a0 2) != 120) = false := bne_eq_false_iff_eq.mpr c15
                    clear c15
                    have H' := Aside0.mk H
                    clear H
                    have p14 : 0 ≤ (2 : Int) := (by omega)
                    have q14 : 2 < a0.size := (by have : (2 : Int) < (a0.size : Int) := of_decide_eq_true (by first | (with_reducible assumption) | assumption); omega)
                    have hx14 : ∀ h : 2 < a0.size, ((a0[2]'h).toNat : Int) = bt a0 2 := bt_at a0 2
                    clear p14
                    have qi14 : (2 < (a0.size : Int)) = True := eq_true (of_decide_eq_true (by first | (with_reducible assumption) | assumption))
                    replace q14 := eq_true q14
                    go_wp2
                    go_meet
                    case rel => exact ⟨_, (true), (by first | rfl | (simp; done) | (simp [*]; done)), H', ⟨by have := HJ2.out; first | omega | exact Nat.le_refl _⟩, ⟨by repeat (first | (with_reducible first | exact HB.out | apply below_alloc | apply pw_below_drewN | apply below_drew1) | exact HB.out)⟩⟩
                  · rw [if_neg c15] at H
                    have c15b0 : ((bt a0 2) == 120) = false := beq_eq_false_iff_ne.mpr c15
                    have c15b1 : ((bt a0 2) != 120) = true := bne_iff_ne.mpr c15
                    have H' := Aside0.mk H
                    clear H
                    have p14 : 0 ≤ (2 : Int) := (by omega)
                    have q14 : 2 < a0.size := (by have : (2 : Int) < (a0.size : Int) := of_decide_eq_true (by first | (with_reducible assumption) | assumption); omega)
                    have hx14 : ∀ h : 2 < a0.size, ((a0[2]'h).toNat : Int) = bt a0 2 := bt_at a0 2
                    clear p14
                    have qi14 : (2 < (a0.size : Int)) = True := eq_true (of_decide_eq_true (by first | (with_reducible assumption) | assumption))
                    replace q14 := eq_true q14
                    have p16 : 0 ≤ (2 : Int) := (by omega)
                    have q16 : 2 < a0.size := (by have : (2 : Int) < (a0.size : Int) := of_decide_eq_true (by first | (with_reducible assumption) | assumption); omega)
                    have hx16 : ∀ h : 2 < a0.size, ((a0[2]'h).toNat : Int) = bt a0 2 := bt_at a0 2
                    clear p16
                    have qi16 : (2 < (a0.size : Int)) = True := eq_true (of_decide_eq_true (by first | (with_reducible assumption) | assumption))
                    replace q16 := eq_true q16
                    go_wp2
                    go_meet
                    case rel => exact ⟨_, (((bt a0 2) == 88)), (by first | rfl | (simp; done) | (simp [*]; done)), H', ⟨by have := HJ2.out; first | omega | exact Nat.le_refl _⟩, ⟨by repeat (first | (with_reducible first | exact HB.out | apply below_alloc | apply pw_below_drewN | apply below_drew1) | exact HB.out)⟩⟩
                · rw [if_neg c13] at H
                  exact absurd H (by simp)
              · rw [if_neg c12] at H
                have c12b0 : decide (2 < t113) = false := decide_eq_false c12
                clear c12
                (first | rw [c12b0] | (simp only [i64_w, i32_w]; rw [c12b0]) | skip)
                have H' := Aside0.mk H
                clear H
                go_wp2
                go_meet
                case rel => exact ⟨_, (false), (by first | rfl | (simp; done) | (simp [*]; done)), H', ⟨by have := HJ2.out; first | omega | exact Nat.le_refl _⟩, ⟨by repeat (first | (with_reducible first | exact HB.out | apply below_alloc | apply pw_below_drewN | apply below_drew1) | exact HB.out)⟩⟩
            case rest =>
              clear HC11
              try clear c1
              try clear p1
              try clear q1
              try clear hx1
              try clear qi1
              try clear c2
              try clear p2
              try clear c3
              try clear c4
              try clear c4b0
              try clear c5
              try clear c5b0
              try clear c5b1
              try clear p6
              try clear q6
              try clear hx6
              try clear qi6
              try clear c7
              try clear c8
              try clear c8b0
              try clear c8b1
              try clear p9
              try clear q9
              try clear hx9
              try clear qi9
              try clear c10
              try clear c10b0
              try clear c10b1
              try clear c12
              try clear c12b0
              try clear c13
              try clear c13b0
              try clear c13b1
              try clear p14
              try clear q14
              try clear hx14
              try clear qi14
              try clear c15
              try clear c15b0
              try clear c15b1
              try clear p16
              try clear q16
              try clear hx16
              try clear qi16
              try clear p14
              try clear p16
              try clear p2
              try clear p6
              try clear p9
              try clear q14
              try clear q16
              try clear q6
              try clear q9
              obtain ⟨kq, x43_10, rfl, HA, HJ10, HB⟩ := hcut
              cases kq with
              | zero => exact absurd HA.out (by simp [incipitref04_Read.j1])
              | succ kj10 =>
                have H := HA.out
                clear HA
                simp only [incipitref04_Read.j1] at H
                have HC17 := Aside0.mk H
                clear H
                go_upto_if 43 with (fail)
                go_cut [5] (fun v5 wc => ∃ (kq : Nat) (x5_16 : Int), v5 = .int .i64 x5_16 ∧ Aside0 (incipitref04_Read.j2 kq t113 x5_16 = some (r1, r2)) ∧ Aside0 (kq ≤ kj10) ∧ Aside0 (Below w.heap.size w wc))
                case first =>
                  have H := HC17.out
                  clear HC17
                  by_cases c18 : x43_10 = true
                  · subst c18
                    have H1 : (if 3 ≤ t113 then (if t113 ≤ (a0.size : Int) then ((incipitref04_number.f kj10 (a0.extract 3 (t113 : Int).toNat) 16 6).bind fun t116 => (incipitref04_Read.j2 kj10 t113 t116)) else (none)) else (none)) = some (r1, r2) := by rw [if_pos rfl] at H; exact H
                    clear H
                    have H := H1
                    clear H1
                    by_cases c19 : 3 ≤ t113
                    · rw [if_pos c19] at H
                      have c19b0 := eq_true c19
                      have c19b1 : decide (3 ≤ t113) = true := decide_eq_true c19
                      clear c19
                      by_cases c20 : t113 ≤ (a0.size : Int)
                      · rw [if_pos c20] at H
                        have c20b0 := eq_true c20
                        have c20b1 : decide (t113 ≤ (a0.size : Int)) = true := decide_eq_true c20
                        clear c20
                        replace H := Option.bind_eq_some_iff.mp H
                        obtain ⟨t116, A210, H⟩ := H
                        replace H : (incipitref04_Read.j2 kj10 t113 t116) = some (r1, r2) := H
                        have A21 := Aside0.mk A210
                        clear A210
                        have H' := Aside0.mk H
                        clear H
                        go_wp2_with (first | ((with_reducible refine gate_callee (f := 40) rfl ?_); refine goesL_ (some 47) rfl rfl Tryz.func40 (by kernel_rfl) rfl #[.string (a0.extract 3 (t113 : Int).toNat), .int .i64 16, .int .i64 6] rfl (by (try simp only [List.map_toArray, List.map_cons, List.map_nil]); first | done | rfl | (simp only [List.length_drop, List.length_take]; rfl)) ?_; (with_reducible refine (incipitref04_number.calls kj10 (a0.extract 3 (t113 : Int).toNat) 16 6 t116 _ A21.out).mono ?_); rintro e w' ⟨rfl, ⟨nd, rfl⟩⟩; refine ⟨_, rfl, ?_⟩))
                        go_meet
                        case rel => exact ⟨_, (t116), (by first | rfl | (simp; done) | (simp [*]; done)), H', ⟨by have := HJ2.out; have := HJ10.out; first | omega | exact Nat.le_refl _⟩, ⟨by repeat (first | (with_reducible first | exact HB.out | apply below_alloc | apply pw_below_drewN | apply below_drew1) | exact HB.out)⟩⟩
                      · rw [if_neg c20] at H
                        exact absurd H (by simp)
                    · rw [if_neg c19] at H
                      exact absurd H (by simp)
                  · replace c18 := Bool.eq_false_iff.mpr c18
                    subst c18
                    have H1 : (if 2 ≤ t113 then (if t113 ≤ (a0.size : Int) then ((incipitref04_number.f kj10 (a0.extract 2 (t113 : Int).toNat) 10 7).bind fun t117 => (incipitref04_Read.j2 kj10 t113 t117)) else (none)) else (none)) = some (r1, r2) := by rw [if_neg (show ¬ (false = true) by decide)] at H; exact H
                    clear H
                    have H := H1
                    clear H1
                    by_cases c22 : 2 ≤ t113
                    · rw [if_pos c22] at H
                      have c22b0 := eq_true c22
                      have c22b1 : decide (2 ≤ t113) = true := decide_eq_true c22
                      clear c22
                      by_cases c23 : t113 ≤ (a0.size : Int)
                      · rw [if_pos c23] at H
                        have c23b0 := eq_true c23
                        have c23b1 : decide (t113 ≤ (a0.size : Int)) = true := decide_eq_true c23
                        clear c23
                        replace H := Option.bind_eq_some_iff.mp H
                        obtain ⟨t117, A240, H⟩ := H
                        replace H : (incipitref04_Read.j2 kj10 t113 t117) = some (r1, r2) := H
                        have A24 := Aside0.mk A240
                        clear A240
                        have H' := Aside0.mk H
                        clear H
                        go_wp2_with (first | ((with_reducible refine gate_callee (f := 40) rfl ?_); refine goesL_ (some 51) rfl rfl Tryz.func40 (by kernel_rfl) rfl #[.string (a0.extract 2 (t113 : Int).toNat), .int .i64 10, .int .i64 7] rfl (by (try simp only [List.map_toArray, List.map_cons, List.map_nil]); first | done | rfl | (simp only [List.length_drop, List.length_take]; rfl)) ?_; (with_reducible refine (incipitref04_number.calls kj10 (a0.extract 2 (t113 : Int).toNat) 10 7 t117 _ A24.out).mono ?_); rintro e w' ⟨rfl, ⟨nd, rfl⟩⟩; refine ⟨_, rfl, ?_⟩))
                        go_meet
                        case rel => exact ⟨_, (t117), (by first | rfl | (simp; done) | (simp [*]; done)), H', ⟨by have := HJ2.out; have := HJ10.out; first | omega | exact Nat.le_refl _⟩, ⟨by repeat (first | (with_reducible first | exact HB.out | apply below_alloc | apply pw_below_drewN | apply below_drew1) | exact HB.out)⟩⟩
                      · rw [if_neg c23] at H
                        exact absurd H (by simp)
                    · rw [if_neg c22] at H
                      exact absurd H (by simp)
                case rest =>
                  clear HC17
                  try clear c1
                  try clear p1
                  try clear q1
                  try clear hx1
                  try clear qi1
                  try clear c2
                  try clear p2
                  try clear c3
                  try clear c4
                  try clear c4b0
                  try clear c5
                  try clear c5b0
                  try clear c5b1
                  try clear p6
                  try clear q6
                  try clear hx6
                  try clear qi6
                  try clear c7
                  try clear c8
                  try clear c8b0
                  try clear c8b1
                  try clear p9
                  try clear q9
                  try clear hx9
                  try clear qi9
                  try clear c10
                  try clear c10b0
                  try clear c10b1
                  try clear c12
                  try clear c12b0
                  try clear c13
                  try clear c13b0
                  try clear c13b1
                  try clear p14
                  try clear q14
                  try clear hx14
                  try clear qi14
                  try clear c15
                  try clear c15b0
                  try clear c15b1
                  try clear p16
                  try clear q16
                  try clear hx16
                  try clear qi16
                  try clear c18
                  try clear c19
                  try clear c19b0
                  try clear c19b1
                  try clear c20
                  try clear c20b0
                  try clear c20b1
                  try clear c22
                  try clear c22b0
                  try clear c22b1
                  try clear c23
                  try clear c23b0
                  try clear c23b1
                  try clear p1
                  try clear p14
                  try clear p16
                  try clear p2
                  try clear p6
                  try clear p9
                  try clear q1
                  try clear q14
                  try clear q16
                  try clear q6
                  try clear q9
                  obtain ⟨kq, x5_16, rfl, HA, HJ16, HB⟩ := hcut
                  cases kq with
                  | zero => exact absurd HA.out (by simp [incipitref04_Read.j2])
                  | succ kj16 =>
                    have H := HA.out
                    clear HA
                    simp only [incipitref04_Read.j2] at H
                    by_cases c25 : x5_16 < 0
                    · rw [if_pos c25] at H
                      have c25b0 : decide (x5_16 < 0) = true := decide_eq_true c25
                      clear c25
                      simp only [Option.some.injEq, Prod.mk.injEq] at H
                      obtain ⟨rfl, rfl⟩ := H
                      go_wp2
                      go_ret2
                      exact ⟨by first | rfl | (simp [errW_none, errW_some] <;> rfl) | (simp [*, errW_none, errW_some] <;> rfl), by repeat (first | (with_reducible first | exact HB.out | apply below_alloc | apply pw_below_drewN | apply below_drew1) | exact HB.out)⟩
                    · rw [if_neg c25] at H
                      have c25b0 : decide (x5_16 < 0) = false := decide_eq_false c25
                      clear c25
                      by_cases c26 : x5_16 = 0
                      · rw [if_pos c26] at H
                        have c26b0 : (x5_16 == 0) = true := beq_iff_eq.mpr c26
                        have c26b1 : (x5_16 != 0) = false := bne_eq_false_iff_eq.mpr c26
                        clear c26
                        simp only [Option.some.injEq, Prod.mk.injEq] at H
                        obtain ⟨rfl, rfl⟩ := H
                        go_wp2
                        go_ret2
                        exact ⟨by first | rfl | (simp [errW_none, errW_some] <;> rfl) | (simp [*, errW_none, errW_some] <;> rfl), by repeat (first | (with_reducible first | exact HB.out | apply below_alloc | apply pw_below_drewN | apply below_drew1) | exact HB.out)⟩
                      · rw [if_neg c26] at H
                        have c26b0 : (x5_16 == 0) = false := beq_eq_false_iff_ne.mpr c26
                        have c26b1 : (x5_16 != 0) = true := bne_iff_ne.mpr c26
                        by_cases c27 : x5_16 ≥ 55296
                        · rw [if_pos c27] at H
                          have c27b0 : decide (55296 ≤ x5_16) = true := decide_eq_true c27
                          clear c27
                          by_cases c28 : x5_16 ≤ 57343
                          · rw [if_pos c28] at H
                            have c28b0 : decide (x5_16 ≤ 57343) = true := decide_eq_true c28
                            clear c28
                            simp only [Option.some.injEq, Prod.mk.injEq] at H
                            obtain ⟨rfl, rfl⟩ := H
                            go_wp2
                            go_ret2
                            exact ⟨by first | rfl | (simp [errW_none, errW_some] <;> rfl) | (simp [*, errW_none, errW_some] <;> rfl), by repeat (first | (with_reducible first | exact HB.out | apply below_alloc | apply pw_below_drewN | apply below_drew1) | exact HB.out)⟩
                          · rw [if_neg c28] at H
                            have c28b0 : decide (x5_16 ≤ 57343) = false := decide_eq_false c28
                            clear c28
                            by_cases c29 : x5_16 > 1114111
                            · rw [if_pos c29] at H
                              have c29b0 : decide (1114111 < x5_16) = true := decide_eq_true c29
                              clear c29
                              simp only [Option.some.injEq, Prod.mk.injEq] at H
                              obtain ⟨rfl, rfl⟩ := H
                              go_wp2
                              go_ret2
                              exact ⟨by first | rfl | (simp [errW_none, errW_some] <;> rfl) | (simp [*, errW_none, errW_some] <;> rfl), by repeat (first | (with_reducible first | exact HB.out | apply below_alloc | apply pw_below_drewN | apply below_drew1) | exact HB.out)⟩
                            · rw [if_neg c29] at H
                              have c29b0 : decide (1114111 < x5_16) = false := decide_eq_false c29
                              clear c29
                              simp only [Option.some.injEq, Prod.mk.injEq] at H
                              obtain ⟨rfl, rfl⟩ := H
                              go_wp2
                              go_ret2
                              exact ⟨by first | rfl | (simp [errW_none, errW_some] <;> rfl) | (simp [*, errW_none, errW_some] <;> rfl), by repeat (first | (with_reducible first | exact HB.out | apply below_alloc | apply pw_below_drewN | apply below_drew1) | exact HB.out)⟩
                        · rw [if_neg c27] at H
                          have c27b0 : decide (55296 ≤ x5_16) = false := decide_eq_false c27
                          clear c27
                          by_cases c30 : x5_16 > 1114111
                          · rw [if_pos c30] at H
                            have c30b0 : decide (1114111 < x5_16) = true := decide_eq_true c30
                            clear c30
                            simp only [Option.some.injEq, Prod.mk.injEq] at H
                            obtain ⟨rfl, rfl⟩ := H
                            go_wp2
                            go_ret2
                            exact ⟨by first | rfl | (simp [errW_none, errW_some] <;> rfl) | (simp [*, errW_none, errW_some] <;> rfl), by repeat (first | (with_reducible first | exact HB.out | apply below_alloc | apply pw_below_drewN | apply below_drew1) | exact HB.out)⟩
                          · rw [if_neg c30] at H
                            have c30b0 : decide (1114111 < x5_16) = false := decide_eq_false c30
                            clear c30
                            simp only [Option.some.injEq, Prod.mk.injEq] at H
                            obtain ⟨rfl, rfl⟩ := H
                            go_wp2
                            go_ret2
                            exact ⟨by first | rfl | (simp [errW_none, errW_some] <;> rfl) | (simp [*, errW_none, errW_some] <;> rfl), by repeat (first | (with_reducible first | exact HB.out | apply below_alloc | apply pw_below_drewN | apply below_drew1) | exact HB.out)⟩
          · rw [if_neg c10] at H
            have c10b0 : ((bt a0 1) == 35) = false := beq_eq_false_iff_ne.mpr c10
            have c10b1 : ((bt a0 1) != 35) = true := bne_iff_ne.mpr c10
            by_cases c31 : 1 ≤ t113
            · rw [if_pos c31] at H
              have c31b0 := eq_true c31
              have c31b1 : decide (1 ≤ t113) = true := decide_eq_true c31
              clear c31
              by_cases c32 : t113 ≤ (a0.size : Int)
              · rw [if_pos c32] at H
                have c32b0 := eq_true c32
                have c32b1 : decide (t113 ≤ (a0.size : Int)) = true := decide_eq_true c32
                clear c32
                replace H := Option.bind_eq_some_iff.mp H
                obtain ⟨⟨t114, t115⟩, A330, H⟩ := H
                replace H : (if t115 = true then (some (t114, wrap64 (t113 + 1))) else (some ((⟨#[]⟩ : ByteArray), 0))) = some (r1, r2) := H
                have A33 := Aside0.mk A330
                clear A330
                by_cases c34 : t115 = true
                · subst c34
                  have H1 : (some (t114, wrap64 (t113 + 1))) = some (r1, r2) := by rw [if_pos rfl] at H; exact H
                  clear H
                  have H := H1
                  clear H1
                  simp only [Option.some.injEq, Prod.mk.injEq] at H
                  obtain ⟨rfl, rfl⟩ := H
                  have p9 : 0 ≤ (1 : Int) := (by omega)
                  have q9 : 1 < a0.size := (by have : (1 : Int) < (a0.size : Int) := of_decide_eq_true (by first | (with_reducible assumption) | assumption); omega)
                  have hx9 : ∀ h : 1 < a0.size, ((a0[1]'h).toNat : Int) = bt a0 1 := bt_at a0 1
                  clear p9
                  have qi9 : (1 < (a0.size : Int)) = True := eq_true (of_decide_eq_true (by first | (with_reducible assumption) | assumption))
                  replace q9 := eq_true q9
                  go_wp2_with (first | ((with_reducible refine gate_callee (f := 39) rfl ?_); refine goesL_ (some 24) rfl rfl Tryz.func39 (by kernel_rfl) rfl #[.string (a0.extract 1 (t113 : Int).toNat)] rfl (by (try simp only [List.map_toArray, List.map_cons, List.map_nil]); first | done | rfl | (simp only [List.length_drop, List.length_take]; rfl)) ?_; (with_reducible refine (incipitref04_Named.calls kj2 (a0.extract 1 (t113 : Int).toNat) t114 true _ A33.out).mono ?_); rintro e w35 ⟨rfl, hb⟩; refine ⟨_, rfl, ?_⟩; have n0_ := Aside0.mk (below_step (by repeat (first | (with_reducible first | exact HB.out | apply below_alloc | apply pw_below_drewN | apply below_drew1) | exact HB.out)) hb); clear HB; have HB := n0_; clear n0_; (try clear hb); (try clear hb2); (try clear hk); (try clear hi)))
                  go_ret2
                  exact ⟨by first | rfl | (simp [errW_none, errW_some] <;> rfl) | (simp [*, errW_none, errW_some] <;> rfl), by repeat (first | (with_reducible first | exact HB.out | apply below_alloc | apply pw_below_drewN | apply below_drew1) | exact HB.out)⟩
                · replace c34 := Bool.eq_false_iff.mpr c34
                  subst c34
                  have H1 : (some ((⟨#[]⟩ : ByteArray), 0)) = some (r1, r2) := by rw [if_neg (show ¬ (false = true) by decide)] at H; exact H
                  clear H
                  have H := H1
                  clear H1
                  simp only [Option.some.injEq, Prod.mk.injEq] at H
                  obtain ⟨rfl, rfl⟩ := H
                  have p9 : 0 ≤ (1 : Int) := (by omega)
                  have q9 : 1 < a0.size := (by have : (1 : Int) < (a0.size : Int) := of_decide_eq_true (by first | (with_reducible assumption) | assumption); omega)
                  have hx9 : ∀ h : 1 < a0.size, ((a0[1]'h).toNat : Int) = bt a0 1 := bt_at a0 1
                  clear p9
                  have qi9 : (1 < (a0.size : Int)) = True := eq_true (of_decide_eq_true (by first | (with_reducible assumption) | assumption))
                  replace q9 := eq_true q9
                  go_wp2_with (first | ((with_reducible refine gate_callee (f := 39) rfl ?_); refine goesL_ (some 24) rfl rfl Tryz.func39 (by kernel_rfl) rfl #[.string (a0.extract 1 (t113 : Int).toNat)] rfl (by (try simp only [List.map_toArray, List.map_cons, List.map_nil]); first | done | rfl | (simp only [List.length_drop, List.length_take]; rfl)) ?_; (with_reducible refine (incipitref04_Named.calls kj2 (a0.extract 1 (t113 : Int).toNat) t114 false _ A33.out).mono ?_); rintro e w36 ⟨rfl, hb⟩; refine ⟨_, rfl, ?_⟩; have n0_ := Aside0.mk (below_step (by repeat (first | (with_reducible first | exact HB.out | apply below_alloc | apply pw_below_drewN | apply below_drew1) | exact HB.out)) hb); clear HB; have HB := n0_; clear n0_; (try clear hb); (try clear hb2); (try clear hk); (try clear hi)))
                  go_ret2
                  exact ⟨by first | rfl | (simp [errW_none, errW_some] <;> rfl) | (simp [*, errW_none, errW_some] <;> rfl), by repeat (first | (with_reducible first | exact HB.out | apply below_alloc | apply pw_below_drewN | apply below_drew1) | exact HB.out)⟩
              · rw [if_neg c32] at H
                exact absurd H (by simp)
            · rw [if_neg c31] at H
              exact absurd H (by simp)
        · rw [if_neg c8] at H
          exact absurd H (by simp)

end Go.Proofs.YtinpchebcnkckaaGreatDoor.PA
namespace Go.Proofs.YtinpchebcnkckaaGreatDoor.PA
open Go.RowKit Go.Proofs.YtinpchebcnkckaaGreatDoorW.PrintWords Go.Proofs.YtinpchebcnkckaaGreatDoorW.PrintLast Go.Proofs.YtinpchebcnkckaaGreatDoorW.PrintMore
attribute [local go_sem] max2_int min2_int max_two min_two max_three min_three max_four min_four   -- for this text's walks alone
set_option linter.unusedVariables false
set_option linter.unusedSimpArgs false

/-! ### incipitref05_Unescape: function 16 -/
mutual
def incipitref05_Unescape.l0 : Nat → ByteArray → ByteArray → Option (ByteArray)
  | 0, _, _ => none
  | k + 1, x0, x3 => if (x0.size : Int) > 0 then (if 0 < (x0.size : Int) then (if (bt x0 0) = 92 then (if (x0.size : Int) > 1 then (if 1 < (x0.size : Int) then ((incipitref05_Sign.f (bt x0 1)).bind fun t118 => (incipitref05_Unescape.j1 k x0 x3 t118)) else (none)) else (incipitref05_Unescape.j1 k x0 x3 false)) else (incipitref05_Unescape.j1 k x0 x3 false)) else (none)) else (some x3)
def incipitref05_Unescape.j1 : Nat → ByteArray → ByteArray → Bool → Option (ByteArray)
  | 0, _, _, _ => none
  | k + 1, x0, x3, x21 => if x21 = true then (if 1 ≤ 2 then (if 2 ≤ (x0.size : Int) then (if x3.size + (x0.extract 1 2).size ≤ 9223372036854775807 then (incipitref05_Unescape.l0 k (x0.extract 2 x0.size) (x3 ++ (x0.extract 1 2))) else (none)) else (none)) else (none)) else ((incipitref04_Read.f k x0).bind fun bt119 => (if bt119.2 > 0 then (if x3.size + bt119.1.size ≤ 9223372036854775807 then (if 0 ≤ bt119.2 then (if bt119.2 ≤ (x0.size : Int) then (incipitref05_Unescape.l0 k (x0.extract (bt119.2 : Int).toNat x0.size) (x3 ++ bt119.1)) else (none)) else (none)) else (none)) else (if 0 ≤ 1 then (if 1 ≤ (x0.size : Int) then (if x3.size + (x0.extract 0 1).size ≤ 9223372036854775807 then (incipitref05_Unescape.l0 k (x0.extract 1 x0.size) (x3 ++ (x0.extract 0 1))) else (none)) else (none)) else (none))))
end
def incipitref05_Unescape.f (k : Nat) (a0 : ByteArray) : Option (ByteArray) := incipitref05_Unescape.l0 k a0 (⟨#[]⟩ : ByteArray)
theorem incipitref05_Unescape.mono_l : ∀ k, (∀ y0 y1, LeO (incipitref05_Unescape.l0 k y0 y1) (incipitref05_Unescape.l0 (k + 1) y0 y1)) ∧ (∀ y0 y1 y2, LeO (incipitref05_Unescape.j1 k y0 y1 y2) (incipitref05_Unescape.j1 (k + 1) y0 y1 y2))
  | 0 => ⟨fun _ _ r h => by simp [incipitref05_Unescape.l0] at h, fun _ _ _ r h => by simp [incipitref05_Unescape.j1] at h⟩
  | k + 1 => by
    obtain ⟨ih0, ih1⟩ := incipitref05_Unescape.mono_l k
    refine ⟨?_, ?_⟩
    · intro y0 y1
      unfold incipitref05_Unescape.l0
      repeat' first
      | (with_reducible exact ih0 _ _)
      | (with_reducible exact ih1 _ _ _)
      | (with_reducible exact incipitref04_Read.mono _ _)
      | (with_reducible exact LeO.refl _)
      | (with_reducible exact LeO.none _)
      | (with_reducible refine LeO.ite ?_ ?_)
      | (with_reducible refine LeO.bind ?_ (fun _ => ?_))
      | exact ih0 _ _
      | exact ih1 _ _ _
      | exact incipitref04_Read.mono _ _
      | exact LeO.none _
      | refine LeO.ite ?_ ?_
      | refine LeO.bind ?_ (fun _ => ?_)
    · intro y0 y1 y2
      unfold incipitref05_Unescape.j1
      repeat' first
      | (with_reducible exact ih0 _ _)
      | (with_reducible exact ih1 _ _ _)
      | (with_reducible exact incipitref04_Read.mono _ _)
      | (with_reducible exact LeO.refl _)
      | (with_reducible exact LeO.none _)
      | (with_reducible refine LeO.ite ?_ ?_)
      | (with_reducible refine LeO.bind ?_ (fun _ => ?_))
      | exact ih0 _ _
      | exact ih1 _ _ _
      | exact incipitref04_Read.mono _ _
      | exact LeO.none _
      | refine LeO.ite ?_ ?_
      | refine LeO.bind ?_ (fun _ => ?_)
theorem incipitref05_Unescape.mono : ∀ a0 k, LeO (incipitref05_Unescape.f k a0) (incipitref05_Unescape.f (k + 1) a0) := by
  intro a0 k
  obtain ⟨ih0, ih1⟩ := incipitref05_Unescape.mono_l k
  unfold incipitref05_Unescape.f
  repeat' first
      | (with_reducible exact ih0 _ _)
      | (with_reducible exact ih1 _ _ _)
      | (with_reducible exact incipitref04_Read.mono _ _)
      | (with_reducible exact LeO.refl _)
      | (with_reducible exact LeO.none _)
      | (with_reducible refine LeO.ite ?_ ?_)
      | (with_reducible refine LeO.bind ?_ (fun _ => ?_))
      | exact ih0 _ _
      | exact ih1 _ _ _
      | exact incipitref04_Read.mono _ _
      | exact LeO.none _
      | refine LeO.ite ?_ ?_
      | refine LeO.bind ?_ (fun _ => ?_)
set_option maxHeartbeats 8000000 in
set_option maxRecDepth 100000 in
theorem incipitref05_Unescape.calls (k : Nat) (a0 : ByteArray) (r : ByteArray) (w : World) (h : incipitref05_Unescape.f k a0 = some r) :
    Calls Tryz.prog 16 #[.string a0] w fun e w' => e = .returned (.string r) ∧ Below w.heap.size w w' := by
  have HB := Aside0.mk (Below.refl w.heap.size w)
  have H : (incipitref05_Unescape.l0 k a0 (⟨#[]⟩ : ByteArray)) = some r := h
  clear h
  have H' := Aside0.mk H
  clear H
  go_enter Tryz.func16, Tryz.ntmps16
  go_wp2
  go_loopg [0, 3] k (fun kq v0 v3 w' => ∃ (x0_1 : ByteArray) (x3_1 : ByteArray), v0 = .string x0_1 ∧ v3 = .string x3_1 ∧ Aside0 (incipitref05_Unescape.l0 kq x0_1 x3_1 = some r) ∧ Aside0 (kq ≤ k) ∧ Aside0 (Below w.heap.size w w'))
  case atStart => exact ⟨(a0), ((⟨#[]⟩ : ByteArray)), (by first | rfl | (simp; done) | (simp [*]; done)), (by first | rfl | (simp; done) | (simp [*]; done)), H', ⟨Nat.le_refl _⟩, ⟨by repeat (first | (with_reducible first | exact HB.out | apply below_alloc | apply pw_below_drewN | apply below_drew1) | exact HB.out)⟩⟩
  case round =>
    clear H'
    try clear c1
    obtain ⟨x0_1, x3_1, rfl, rfl, HA, HK1, HB⟩ := hrel
    cases gk with
    | zero => exact absurd HA.out (by simp [incipitref05_Unescape.l0])
    | succ k1 =>
      have H := HA.out
      clear HA
      simp only [incipitref05_Unescape.l0] at H
      by_cases c2 : (x0_1.size : Int) > 0
      · rw [if_pos c2] at H
        have c2b0 : decide (0 < (x0_1.size : Int)) = true := decide_eq_true c2
        have c2b1 : decide (0 < x0_1.size) = true := decide_eq_true (by omega)
        clear c2
        have HC3 := Aside0.mk H
        clear H
        go_upto_region 3 with (fail)
        go_cut [21] (fun v21 wc => ∃ (kq : Nat) (x21_2 : Bool), v21 = .bool x21_2 ∧ Aside0 (incipitref05_Unescape.j1 kq x0_1 x3_1 x21_2 = some r) ∧ Aside0 (kq ≤ k1) ∧ Aside0 (Below w.heap.size w wc))
        case first =>
          have H := HC3.out
          clear HC3
          by_cases c4 : 0 < (x0_1.size : Int)
          · rw [if_pos c4] at H
            have c4b0 : decide (0 < (x0_1.size : Int)) = true := decide_eq_true c4
            have c4b1 : decide (0 < x0_1.size) = true := decide_eq_true (by omega)
            clear c4
            (first | rw [c4b0] | (simp only [i64_w, i32_w]; rw [c4b0]) | skip)
            by_cases c6 : (bt x0_1 0) = 92
            · rw [if_pos c6] at H
              have c6b0 : ((bt x0_1 0) == 92) = true := beq_iff_eq.mpr c6
              have c6b1 : ((bt x0_1 0) != 92) = false := bne_eq_false_iff_eq.mpr c6
              clear c6
              by_cases c7 : (x0_1.size : Int) > 1
              · rw [if_pos c7] at H
                have c7b0 : decide (1 < (x0_1.size : Int)) = true := decide_eq_true c7
                have c7b1 : decide (1 < x0_1.size) = true := decide_eq_true (by omega)
                clear c7
                by_cases c8 : 1 < (x0_1.size : Int)
                · rw [if_pos c8] at H
                  have c8b0 : decide (1 < (x0_1.size : Int)) = true := decide_eq_true c8
                  have c8b1 : decide (1 < x0_1.size) = true := decide_eq_true (by omega)
                  clear c8
                  replace H := Option.bind_eq_some_iff.mp H
                  obtain ⟨t118, A100, H⟩ := H
                  replace H : (incipitref05_Unescape.j1 k1 x0_1 x3_1 t118) = some r := H
                  have A10 := Aside0.mk A100
                  clear A100
                  have H' := Aside0.mk H
                  clear H
                  have p5 : 0 ≤ (0 : Int) := (by omega)
                  have q5 : 0 < x0_1.size := (by have : (0 : Int) < (x0_1.size : Int) := of_decide_eq_true (by first | (with_reducible assumption) | assumption); omega)
                  have hx5 : ∀ h : 0 < x0_1.size, ((x0_1[0]'h).toNat : Int) = bt x0_1 0 := bt_at x0_1 0
                  clear p5
                  have qi5 : (0 < (x0_1.size : Int)) = True := eq_true (of_decide_eq_true (by first | (with_reducible assumption) | assumption))
                  replace q5 := eq_true q5
                  have p9 : 0 ≤ (1 : Int) := (by omega)
                  have q9 : 1 < x0_1.size := (by have : (1 : Int) < (x0_1.size : Int) := of_decide_eq_true (by first | (with_reducible assumption) | assumption); omega)
                  have hx9 : ∀ h : 1 < x0_1.size, ((x0_1[1]'h).toNat : Int) = bt x0_1 1 := bt_at x0_1 1
                  clear p9
                  have qi9 : (1 < (x0_1.size : Int)) = True := eq_true (of_decide_eq_true (by first | (with_reducible assumption) | assumption))
                  replace q9 := eq_true q9
                  go_wp2_with (first | (go_at_call 18; (with_reducible refine (incipitref05_Sign.calls (bt x0_1 1) t118 _ A10.out).mono ?_); rintro e w' ⟨rfl, ⟨nd, rfl⟩⟩))
                  go_meet
                  case rel => exact ⟨_, (t118), (by first | rfl | (simp; done) | (simp [*]; done)), H', ⟨by have := HK1.out; first | omega | exact Nat.le_refl _⟩, ⟨by repeat (first | (with_reducible first | exact HB.out | apply below_alloc | apply pw_below_drewN | apply below_drew1) | exact HB.out)⟩⟩
                · rw [if_neg c8] at H
                  exact absurd H (by simp)
              · rw [if_neg c7] at H
                have c7b0 : decide (1 < (x0_1.size : Int)) = false := decide_eq_false c7
                have c7b1 : decide (1 < x0_1.size) = false := decide_eq_false (by omega)
                clear c7
                have H' := Aside0.mk H
                clear H
                have p5 : 0 ≤ (0 : Int) := (by omega)
                have q5 : 0 < x0_1.size := (by have : (0 : Int) < (x0_1.size : Int) := of_decide_eq_true (by first | (with_reducible assumption) | assumption); omega)
                have hx5 : ∀ h : 0 < x0_1.size, ((x0_1[0]'h).toNat : Int) = bt x0_1 0 := bt_at x0_1 0
                clear p5
                have qi5 : (0 < (x0_1.size : Int)) = True := eq_true (of_decide_eq_true (by first | (with_reducible assumption) | assumption))
                replace q5 := eq_true q5
                go_wp2
                go_meet
                case rel => exact ⟨_, (false), (by first | rfl | (simp; done) | (simp [*]; done)), H', ⟨by have := HK1.out; first | omega | exact Nat.le_refl _⟩, ⟨by repeat (first | (with_reducible first | exact HB.out | apply below_alloc | apply pw_below_drewN | apply below_drew1) | exact HB.out)⟩⟩
            · rw [if_neg c6] at H
              have c6b0 : ((bt x0_1 0) == 92) = false := beq_eq_false_iff_ne.mpr c6
              have c6b1 : ((bt x0_1 0) != 92) = true := bne_iff_ne.mpr c6
              have H' := Aside0.mk H
              clear H
              have p5 : 0 ≤ (0 : Int) := (by omega)
              have q5 : 0 < x0_1.size := (by have : (0 : Int) < (x0_1.size : Int) := of_decide_eq_true (by first | (with_reducible assumption) | assumption); omega)
              have hx5 : ∀ h : 0 < x0_1.size, ((x0_1[0]'h).toNat : Int) = bt x0_1 0 := bt_at x0_1 0
              clear p5
              have qi5 : (0 < (x0_1.size : Int)) = True := eq_true (of_decide_eq_true (by first | (with_reducible assumption) | assumption))
              replace q5 := eq_true q5
              go_wp2
              go_meet
              case rel => exact ⟨_, (false), (by first | rfl | (simp; done) | (simp [*]; done)), H', ⟨by have := HK1.out; first | omega | exact Nat.le_refl _⟩, ⟨by repeat (first | (with_reducible first | exact HB.out | apply below_alloc | apply pw_below_drewN | apply below_drew1) | exact HB.out)⟩⟩
          · rw [if_neg c4] at H
            exact absurd H (by simp)
        case rest =>
          clear HC3
          try clear c1
          try clear c2
          try clear c2b0
          try clear c2b1
          try clear p2
          try clear c4
          try clear c4b0
          try clear c4b1
          try clear p5
          try clear q5
          try clear hx5
          try clear qi5
          try clear c6
          try clear c6b0
          try clear c6b1
          try clear c7
          try clear c7b0
          try clear c7b1
          try clear c8
          try clear c8b0
          try clear c8b1
          try clear p9
          try clear q9
          try clear hx9
          try clear qi9
          try clear p5
          try clear p9
          try clear q5
          try clear q9
          obtain ⟨kq, x21_2, rfl, HA, HJ2, HB⟩ := hcut
          cases kq with
          | zero => exact absurd HA.out (by simp [incipitref05_Unescape.j1])
          | succ kj2 =>
            have H := HA.out
            clear HA
            simp only [incipitref05_Unescape.j1] at H
            by_cases c11 : x21_2 = true
            · subst c11
              have H1 : (if 1 ≤ 2 then (if 2 ≤ (x0_1.size : Int) then (if x3_1.size + (x0_1.extract 1 2).size ≤ 9223372036854775807 then (incipitref05_Unescape.l0 kj2 (x0_1.extract 2 x0_1.size) (x3_1 ++ (x0_1.extract 1 2))) else (none)) else (none)) else (none)) = some r := by rw [if_pos rfl] at H; exact H
              clear H
              have H := H1
              clear H1
              by_cases c12 : 1 ≤ 2
              · rw [if_pos c12] at H
                have c12b0 := eq_true c12
                have c12b1 : decide (1 ≤ 2) = true := decide_eq_true c12
                clear c12
                by_cases c13 : 2 ≤ (x0_1.size : Int)
                · rw [if_pos c13] at H
                  have c13b0 := eq_true c13
                  have c13b1 : decide (2 ≤ (x0_1.size : Int)) = true := decide_eq_true c13
                  clear c13
                  by_cases c14 : x3_1.size + (x0_1.extract 1 2).size ≤ 9223372036854775807
                  · rw [if_pos c14] at H
                    have c14b0 := eq_true c14
                    have c14b1 : decide (x3_1.size + (x0_1.extract 1 2).size ≤ 9223372036854775807) = true := decide_eq_true c14
                    have c14b4 := c14
                    (try simp only [ByteArray.size_append, ByteArray.size_extract, Nat.min_self] at c14b4)
                    (try have c14b5 := Nat.not_lt.2 c14b4)
                    (try have c14b7 : ¬ 9223372036854775807 < x3_1.size + (x0_1.extract 1 2).size := by have hh := c14; simp only [ByteArray.size_append] at hh; exact Nat.not_lt.2 hh)
                    try have c14b2 : (9223372036854775807 < x3_1.size + (x0_1.extract 1 2).size) = False := eq_false (Nat.not_lt.2 c14)
                    have c15b0 := eq_true (of_decide_eq_true (by first | (with_reducible assumption) | assumption) : 2 ≤ (x0_1.size : Int))
                    have H' := Aside0.mk H
                    clear H
                    go_wp2
                    go_roundg kj2
                    case measure => have := HK1.out; have := HJ2.out; omega
                    case rel => exact ⟨(x0_1.extract 2 x0_1.size), (x3_1 ++ (x0_1.extract 1 2)), (by first | rfl | (simp; done) | (simp [*]; done)), (by first | rfl | (simp; done) | (simp [*]; done)), H', ⟨by have := HK1.out; have := HJ2.out; omega⟩, ⟨by repeat (first | (with_reducible first | exact HB.out | apply below_alloc | apply pw_below_drewN | apply below_drew1) | exact HB.out)⟩⟩
                  · rw [if_neg c14] at H
                    exact absurd H (by simp)
                · rw [if_neg c13] at H
                  exact absurd H (by simp)
              · rw [if_neg c12] at H
                exact absurd H (by simp)
            · replace c11 := Bool.eq_false_iff.mpr c11
              subst c11
              have H1 : ((incipitref04_Read.f kj2 x0_1).bind fun bt119 => (if bt119.2 > 0 then (if x3_1.size + bt119.1.size ≤ 9223372036854775807 then (if 0 ≤ bt119.2 then (if bt119.2 ≤ (x0_1.size : Int) then (incipitref05_Unescape.l0 kj2 (x0_1.extract (bt119.2 : Int).toNat x0_1.size) (x3_1 ++ bt119.1)) else (none)) else (none)) else (none)) else (if 0 ≤ 1 then (if 1 ≤ (x0_1.size : Int) then (if x3_1.size + (x0_1.extract 0 1).size ≤ 9223372036854775807 then (incipitref05_Unescape.l0 kj2 (x0_1.extract 1 x0_1.size) (x3_1 ++ (x0_1.extract 0 1))) else (none)) else (none)) else (none)))) = some r := by rw [if_neg (show ¬ (false = true) by decide)] at H; exact H
              clear H
              have H := H1
              clear H1
              replace H := Option.bind_eq_some_iff.mp H
              obtain ⟨⟨t119, t120⟩, A160, H⟩ := H
              replace H : (if t120 > 0 then (if x3_1.size + t119.size ≤ 9223372036854775807 then (if 0 ≤ t120 then (if t120 ≤ (x0_1.size : Int) then (incipitref05_Unescape.l0 kj2 (x0_1.extract (t120 : Int).toNat x0_1.size) (x3_1 ++ t119)) else (none)) else (none)) else (none)) else (if 0 ≤ 1 then (if 1 ≤ (x0_1.size : Int) then (if x3_1.size + (x0_1.extract 0 1).size ≤ 9223372036854775807 then (incipitref05_Unescape.l0 kj2 (x0_1.extract 1 x0_1.size) (x3_1 ++ (x0_1.extract 0 1))) else (none)) else (none)) else (none))) = some r := H
              have A16 := Aside0.mk A160
              clear A160
              by_cases c17 : t120 > 0
              · rw [if_pos c17] at H
                have c17b0 : decide (0 < t120) = true := decide_eq_true c17
                clear c17
                by_cases c18 : x3_1.size + t119.size ≤ 9223372036854775807
                · rw [if_pos c18] at H
                  have c18b0 := eq_true c18
                  have c18b1 : decide (x3_1.size + t119.size ≤ 9223372036854775807) = true := decide_eq_true c18
                  try have c18b2 : (9223372036854775807 < x3_1.size + t119.size) = False := eq_false (Nat.not_lt.2 c18)
                  by_cases c19 : 0 ≤ t120
                  · rw [if_pos c19] at H
                    have c19b0 := eq_true c19
                    have c19b1 : decide (0 ≤ t120) = true := decide_eq_true c19
                    clear c19
                    by_cases c20 : t120 ≤ (x0_1.size : Int)
                    · rw [if_pos c20] at H
                      have c20b0 := eq_true c20
                      have c20b1 : decide (t120 ≤ (x0_1.size : Int)) = true := decide_eq_true c20
                      clear c20
                      have H' := Aside0.mk H
                      clear H
                      go_wp2_with (first | ((with_reducible refine gate_callee (f := 29) rfl ?_); refine goesL_ (some 30) rfl rfl Tryz.func29 (by kernel_rfl) rfl #[.string x0_1] rfl (by (try simp only [List.map_toArray, List.map_cons, List.map_nil]); first | done | rfl | (simp only [List.length_drop, List.length_take]; rfl)) ?_; (with_reducible refine (incipitref04_Read.calls kj2 x0_1 t119 t120 _ A16.out).mono ?_); rintro e w21 ⟨rfl, hb⟩; refine ⟨_, rfl, ?_⟩; have n0_ := Aside0.mk (below_step (by repeat (first | (with_reducible first | exact HB.out | apply below_alloc | apply pw_below_drewN | apply below_drew1) | exact HB.out)) hb); clear HB; have HB := n0_; clear n0_; (try clear hb); (try clear hb2); (try clear hk); (try clear hi)))
                      go_roundg kj2
                      case measure => have := HK1.out; have := HJ2.out; omega
                      case rel => exact ⟨(x0_1.extract (t120 : Int).toNat x0_1.size), (x3_1 ++ t119), (by first | rfl | (simp; done) | (simp [*]; done)), (by first | rfl | (simp; done) | (simp [*]; done)), H', ⟨by have := HK1.out; have := HJ2.out; omega⟩, ⟨by repeat (first | (with_reducible first | exact HB.out | apply below_alloc | apply pw_below_drewN | apply below_drew1) | exact HB.out)⟩⟩
                    · rw [if_neg c20] at H
                      exact absurd H (by simp)
                  · rw [if_neg c19] at H
                    exact absurd H (by simp)
                · rw [if_neg c18] at H
                  exact absurd H (by simp)
              · rw [if_neg c17] at H
                have c17b0 : decide (0 < t120) = false := decide_eq_false c17
                clear c17
                by_cases c22 : 0 ≤ 1
                · rw [if_pos c22] at H
                  have c22b0 := eq_true c22
                  have c22b1 : decide (0 ≤ 1) = true := decide_eq_true c22
                  clear c22
                  by_cases c23 : 1 ≤ (x0_1.size : Int)
                  · rw [if_pos c23] at H
                    have c23b0 := eq_true c23
                    have c23b1 : decide (1 ≤ (x0_1.size : Int)) = true := decide_eq_true c23
                    clear c23
                    by_cases c24 : x3_1.size + (x0_1.extract 0 1).size ≤ 9223372036854775807
                    · rw [if_pos c24] at H
                      have c24b0 := eq_true c24
                      have c24b1 : decide (x3_1.size + (x0_1.extract 0 1).size ≤ 9223372036854775807) = true := decide_eq_true c24
                      have c24b4 := c24
                      (try simp only [ByteArray.size_append, ByteArray.size_extract, Nat.min_self] at c24b4)
                      (try have c24b5 := Nat.not_lt.2 c24b4)
                      (try have c24b7 : ¬ 9223372036854775807 < x3_1.size + (x0_1.extract 0 1).size := by have hh := c24; simp only [ByteArray.size_append] at hh; exact Nat.not_lt.2 hh)
                      try have c24b2 : (9223372036854775807 < x3_1.size + (x0_1.extract 0 1).size) = False := eq_false (Nat.not_lt.2 c24)
                      have c25b0 := eq_true (of_decide_eq_true (by first | (with_reducible assumption) | assumption) : 1 ≤ (x0_1.size : Int))
                      have H' := Aside0.mk H
                      clear H
                      go_wp2_with (first | ((with_reducible refine gate_callee (f := 29) rfl ?_); refine goesL_ (some 30) rfl rfl Tryz.func29 (by kernel_rfl) rfl #[.string x0_1] rfl (by (try simp only [List.map_toArray, List.map_cons, List.map_nil]); first | done | rfl | (simp only [List.length_drop, List.length_take]; rfl)) ?_; (with_reducible refine (incipitref04_Read.calls kj2 x0_1 t119 t120 _ A16.out).mono ?_); rintro e w26 ⟨rfl, hb⟩; refine ⟨_, rfl, ?_⟩; have n0_ := Aside0.mk (below_step (by repeat (first | (with_reducible first | exact HB.out | apply below_alloc | apply pw_below_drewN | apply below_drew1) | exact HB.out)) hb); clear HB; have HB := n0_; clear n0_; (try clear hb); (try clear hb2); (try clear hk); (try clear hi)))
                      go_roundg kj2
                      case measure => have := HK1.out; have := HJ2.out; omega
                      case rel => exact ⟨(x0_1.extract 1 x0_1.size), (x3_1 ++ (x0_1.extract 0 1)), (by first | rfl | (simp; done) | (simp [*]; done)), (by first | rfl | (simp; done) | (simp [*]; done)), H', ⟨by have := HK1.out; have := HJ2.out; omega⟩, ⟨by repeat (first | (with_reducible first | exact HB.out | apply below_alloc | apply pw_below_drewN | apply below_drew1) | exact HB.out)⟩⟩
                    · rw [if_neg c24] at H
                      exact absurd H (by simp)
                  · rw [if_neg c23] at H
                    exact absurd H (by simp)
                · rw [if_neg c22] at H
                  exact absurd H (by simp)
      · rw [if_neg c2] at H
        have c2b0 : decide (0 < (x0_1.size : Int)) = false := decide_eq_false c2
        have c2b1 : decide (0 < x0_1.size) = false := decide_eq_false (by omega)
        clear c2
        obtain rfl := Option.some.inj H
        go_wp2
        go_ret
        exact ⟨by first | rfl | (simp [errW_none, errW_some] <;> rfl) | (simp [*, errW_none, errW_some] <;> rfl), by repeat (first | (with_reducible first | exact HB.out | apply below_alloc | apply pw_below_drewN | apply below_drew1) | exact HB.out)⟩

/-! ### incipitlaw05_EscapeIs: function 3 -/
def incipitlaw05_EscapeIs.f (k : Nat) (a0 : ByteArray) (a1 : Int) : Option (Bool) := (incipitlaw05_awake.f).bind fun t121 => (if (a0.size : Int) > 2000 then (some t121) else (if t121 = true then ((escape_Html.f a0).bind fun t122 => ((incipitref05_Html.f k a0).bind fun t123 => (if t122.toList = t123.toList then ((escape_Href.f a0).bind fun t124 => ((incipitref05_Href.f k a0).bind fun t125 => (if t124.toList = t125.toList then ((escape_Unescape.f a0).bind fun t126 => ((incipitref05_Unescape.f k a0).bind fun t127 => (if t126.toList = t127.toList then ((escape_Sign.f a1).bind fun t128 => ((incipitref05_Sign.f a1).bind fun t129 => (some (t128 == t129)))) else (some false)))) else (some false)))) else (some false)))) else (some false)))
theorem incipitlaw05_EscapeIs.mono : ∀ a0 a1 k, LeO (incipitlaw05_EscapeIs.f k a0 a1) (incipitlaw05_EscapeIs.f (k + 1) a0 a1) := by
  intro a0 a1 k
  unfold incipitlaw05_EscapeIs.f
  repeat' first
      | (with_reducible exact incipitref05_Href.mono _ _)
      | (with_reducible exact incipitref05_Html.mono _ _)
      | (with_reducible exact incipitref05_Unescape.mono _ _)
      | (with_reducible exact LeO.refl _)
      | (with_reducible exact LeO.none _)
      | (with_reducible refine LeO.ite ?_ ?_)
      | (with_reducible refine LeO.bind ?_ (fun _ => ?_))
      | exact incipitref05_Href.mono _ _
      | exact incipitref05_Html.mono _ _
      | exact incipitref05_Unescape.mono _ _
      | exact LeO.none _
      | refine LeO.ite ?_ ?_
      | refine LeO.bind ?_ (fun _ => ?_)
set_option maxHeartbeats 8000000 in
set_option maxRecDepth 100000 in
theorem incipitlaw05_EscapeIs.calls (k : Nat) (a0 : ByteArray) (a1 : Int) (r : Bool) (w : World) (hLd : Laid w) (h : incipitlaw05_EscapeIs.f k a0 a1 = some r) :
    Calls Tryz.prog 3 #[.string a0, .int .u8 a1] w fun e w' => e = .returned (.bool r) ∧ Below w.heap.size w w' := by
  have HB := Aside0.mk (Below.refl w.heap.size w)
  have H : ((incipitlaw05_awake.f).bind fun t121 => (if (a0.size : Int) > 2000 then (some t121) else (if t121 = true then ((escape_Html.f a0).bind fun t122 => ((incipitref05_Html.f k a0).bind fun t123 => (if t122.toList = t123.toList then ((escape_Href.f a0).bind fun t124 => ((incipitref05_Href.f k a0).bind fun t125 => (if t124.toList = t125.toList then ((escape_Unescape.f a0).bind fun t126 => ((incipitref05_Unescape.f k a0).bind fun t127 => (if t126.toList = t127.toList then ((escape_Sign.f a1).bind fun t128 => ((incipitref05_Sign.f a1).bind fun t129 => (some (t128 == t129)))) else (some false)))) else (some false)))) else (some false)))) else (some false)))) = some r := h
  clear h
  replace H := Option.bind_eq_some_iff.mp H
  obtain ⟨t121, A30, H⟩ := H
  replace H : (if (a0.size : Int) > 2000 then (some t121) else (if t121 = true then ((escape_Html.f a0).bind fun t122 => ((incipitref05_Html.f k a0).bind fun t123 => (if t122.toList = t123.toList then ((escape_Href.f a0).bind fun t124 => ((incipitref05_Href.f k a0).bind fun t125 => (if t124.toList = t125.toList then ((escape_Unescape.f a0).bind fun t126 => ((incipitref05_Unescape.f k a0).bind fun t127 => (if t126.toList = t127.toList then ((escape_Sign.f a1).bind fun t128 => ((incipitref05_Sign.f a1).bind fun t129 => (some (t128 == t129)))) else (some false)))) else (some false)))) else (some false)))) else (some false))) = some r := H
  have A3 := Aside0.mk A30
  clear A30
  by_cases c4 : (a0.size : Int) > 2000
  · rw [if_pos c4] at H
    have c4b0 : decide (2000 < (a0.size : Int)) = true := decide_eq_true c4
    have c4b1 : decide (2000 < a0.size) = true := decide_eq_true (by omega)
    clear c4
    obtain rfl := Option.some.inj H
    go_enter Tryz.func3, Tryz.ntmps3
    go_wp2_with (first | ((with_reducible refine gate_callee (f := 10) rfl ?_); refine goesL_ (some 6) rfl rfl Tryz.func10 (by kernel_rfl) rfl #[] rfl (by (try simp only [List.map_toArray, List.map_cons, List.map_nil]); first | done | rfl | (simp only [List.length_drop, List.length_take]; rfl)) ?_; (with_reducible refine (incipitlaw05_awake.calls  t121 _ ?side1 A3.out).mono ?_); (case side1 => exact Laid.go hLd (by repeat (first | (with_reducible first | exact HB.out | apply below_alloc | apply pw_below_drewN | apply below_drew1) | exact HB.out))); rintro e w5 ⟨rfl, hb⟩; refine ⟨_, rfl, ?_⟩; have n0_ := Aside0.mk (below_step (by repeat (first | (with_reducible first | exact HB.out | apply below_alloc | apply pw_below_drewN | apply below_drew1) | exact HB.out)) hb); clear HB; have HB := n0_; clear n0_; (try clear hb); (try clear hb2); (try clear hk); (try clear hi)))
    go_ret
    exact ⟨by first | rfl | (simp [errW_none, errW_some] <;> rfl) | (simp [*, errW_none, errW_some] <;> rfl), by repeat (first | (with_reducible first | exact HB.out | apply below_alloc | apply pw_below_drewN | apply below_drew1) | exact HB.out)⟩
  · rw [if_neg c4] at H
    have c4b0 : decide (2000 < (a0.size : Int)) = false := decide_eq_false c4
    have c4b1 : decide (2000 < a0.size) = false := decide_eq_false (by omega)
    clear c4
    by_cases c6 : t121 = true
    · subst c6
      have H1 : ((escape_Html.f a0).bind fun t122 => ((incipitref05_Html.f k a0).bind fun t123 => (if t122.toList = t123.toList then ((escape_Href.f a0).bind fun t124 => ((incipitref05_Href.f k a0).bind fun t125 => (if t124.toList = t125.toList then ((escape_Unescape.f a0).bind fun t126 => ((incipitref05_Unescape.f k a0).bind fun t127 => (if t126.toList = t127.toList then ((escape_Sign.f a1).bind fun t128 => ((incipitref05_Sign.f a1).bind fun t129 => (some (t128 == t129)))) else (some false)))) else (some false)))) else (some false)))) = some r := by rw [if_pos rfl] at H; exact H
      clear H
      have H := H1
      clear H1
      replace H := Option.bind_eq_some_iff.mp H
      obtain ⟨t122, A70, H⟩ := H
      replace H : ((incipitref05_Html.f k a0).bind fun t123 => (if t122.toList = t123.toList then ((escape_Href.f a0).bind fun t124 => ((incipitref05_Href.f k a0).bind fun t125 => (if t124.toList = t125.toList then ((escape_Unescape.f a0).bind fun t126 => ((incipitref05_Unescape.f k a0).bind fun t127 => (if t126.toList = t127.toList then ((escape_Sign.f a1).bind fun t128 => ((incipitref05_Sign.f a1).bind fun t129 => (some (t128 == t129)))) else (some false)))) else (some false)))) else (some false))) = some r := H
      have A7 := Aside0.mk A70
      clear A70
      replace H := Option.bind_eq_some_iff.mp H
      obtain ⟨t123, A80, H⟩ := H
      replace H : (if t122.toList = t123.toList then ((escape_Href.f a0).bind fun t124 => ((incipitref05_Href.f k a0).bind fun t125 => (if t124.toList = t125.toList then ((escape_Unescape.f a0).bind fun t126 => ((incipitref05_Unescape.f k a0).bind fun t127 => (if t126.toList = t127.toList then ((escape_Sign.f a1).bind fun t128 => ((incipitref05_Sign.f a1).bind fun t129 => (some (t128 == t129)))) else (some false)))) else (some false)))) else (some false)) = some r := H
      have A8 := Aside0.mk A80
      clear A80
      by_cases c9 : t122.toList = t123.toList
      · rw [if_pos c9] at H
        have c9b0 : (t122.toList == t123.toList) = true := beq_iff_eq.mpr c9
        have c9b1 : (t122.toList != t123.toList) = false := bne_eq_false_iff_eq.mpr c9
        clear c9
        replace H := Option.bind_eq_some_iff.mp H
        obtain ⟨t124, A100, H⟩ := H
        replace H : ((incipitref05_Href.f k a0).bind fun t125 => (if t124.toList = t125.toList then ((escape_Unescape.f a0).bind fun t126 => ((incipitref05_Unescape.f k a0).bind fun t127 => (if t126.toList = t127.toList then ((escape_Sign.f a1).bind fun t128 => ((incipitref05_Sign.f a1).bind fun t129 => (some (t128 == t129)))) else (some false)))) else (some false))) = some r := H
        have A10 := Aside0.mk A100
        clear A100
        replace H := Option.bind_eq_some_iff.mp H
        obtain ⟨t125, A110, H⟩ := H
        replace H : (if t124.toList = t125.toList then ((escape_Unescape.f a0).bind fun t126 => ((incipitref05_Unescape.f k a0).bind fun t127 => (if t126.toList = t127.toList then ((escape_Sign.f a1).bind fun t128 => ((incipitref05_Sign.f a1).bind fun t129 => (some (t128 == t129)))) else (some false)))) else (some false)) = some r := H
        have A11 := Aside0.mk A110
        clear A110
        by_cases c12 : t124.toList = t125.toList
        · rw [if_pos c12] at H
          have c12b0 : (t124.toList == t125.toList) = true := beq_iff_eq.mpr c12
          have c12b1 : (t124.toList != t125.toList) = false := bne_eq_false_iff_eq.mpr c12
          clear c12
          replace H := Option.bind_eq_some_iff.mp H
          obtain ⟨t126, A130, H⟩ := H
          replace H : ((incipitref05_Unescape.f k a0).bind fun t127 => (if t126.toList = t127.toList then ((escape_Sign.f a1).bind fun t128 => ((incipitref05_Sign.f a1).bind fun t129 => (some (t128 == t129)))) else (some false))) = some r := H
          have A13 := Aside0.mk A130
          clear A130
          replace H := Option.bind_eq_some_iff.mp H
          obtain ⟨t127, A140, H⟩ := H
          replace H : (if t126.toList = t127.toList then ((escape_Sign.f a1).bind fun t128 => ((incipitref05_Sign.f a1).bind fun t129 => (some (t128 == t129)))) else (some false)) = some r := H
          have A14 := Aside0.mk A140
          clear A140
          by_cases c15 : t126.toList = t127.toList
          · rw [if_pos c15] at H
            have c15b0 : (t126.toList == t127.toList) = true := beq_iff_eq.mpr c15
            have c15b1 : (t126.toList != t127.toList) = false := bne_eq_false_iff_eq.mpr c15
            clear c15
            replace H := Option.bind_eq_some_iff.mp H
            obtain ⟨t128, A160, H⟩ := H
            replace H : ((incipitref05_Sign.f a1).bind fun t129 => (some (t128 == t129))) = some r := H
            have A16 := Aside0.mk A160
            clear A160
            replace H := Option.bind_eq_some_iff.mp H
            obtain ⟨t129, A170, H⟩ := H
            replace H : (some (t128 == t129)) = some r := H
            have A17 := Aside0.mk A170
            clear A170
            obtain rfl := Option.some.inj H
            go_enter Tryz.func3, Tryz.ntmps3
            go_wp2_with (first | ((with_reducible refine gate_callee (f := 10) rfl ?_); refine goesL_ (some 6) rfl rfl Tryz.func10 (by kernel_rfl) rfl #[] rfl (by (try simp only [List.map_toArray, List.map_cons, List.map_nil]); first | done | rfl | (simp only [List.length_drop, List.length_take]; rfl)) ?_; (with_reducible refine (incipitlaw05_awake.calls  true _ ?side1 A3.out).mono ?_); (case side1 => exact Laid.go hLd (by repeat (first | (with_reducible first | exact HB.out | apply below_alloc | apply pw_below_drewN | apply below_drew1) | exact HB.out))); rintro e w18 ⟨rfl, hb⟩; refine ⟨_, rfl, ?_⟩; have n0_ := Aside0.mk (below_step (by repeat (first | (with_reducible first | exact HB.out | apply below_alloc | apply pw_below_drewN | apply below_drew1) | exact HB.out)) hb); clear HB; have HB := n0_; clear n0_; (try clear hb); (try clear hb2); (try clear hk); (try clear hi)) | (go_at_call 11; (with_reducible refine (escape_Html.calls a0 t122 _ A7.out).mono ?_); rintro e w19 ⟨rfl, hb⟩; have n0_ := Aside0.mk (below_step (by repeat (first | (with_reducible first | exact HB.out | apply below_alloc | apply pw_below_drewN | apply below_drew1) | exact HB.out)) hb); clear HB; have HB := n0_; clear n0_; (try clear hb); (try clear hb2); (try clear hk); (try clear hi)) | (go_at_call 12; (with_reducible refine (incipitref05_Html.calls k a0 t123 _ A8.out).mono ?_); rintro e w' ⟨rfl, ⟨nd, rfl⟩⟩) | (go_at_call 13; (with_reducible refine (escape_Href.calls a0 t124 _ A10.out).mono ?_); rintro e w20 ⟨rfl, hb⟩; have n0_ := Aside0.mk (below_step (by repeat (first | (with_reducible first | exact HB.out | apply below_alloc | apply pw_below_drewN | apply below_drew1) | exact HB.out)) hb); clear HB; have HB := n0_; clear n0_; (try clear hb); (try clear hb2); (try clear hk); (try clear hi)) | (go_at_call 14; (with_reducible refine (incipitref05_Href.calls k a0 t125 _ A11.out).mono ?_); rintro e w' ⟨rfl, ⟨nd, rfl⟩⟩) | (go_at_call 15; (with_reducible refine (escape_Unescape.calls a0 t126 _ ?side1 A13.out).mono ?_); (case side1 => exact Laid.go hLd (by repeat (first | (with_reducible first | exact HB.out | apply below_alloc | apply pw_below_drewN | apply below_drew1) | exact HB.out))); rintro e w21 ⟨rfl, hb⟩; have n0_ := Aside0.mk (below_step (by repeat (first | (with_reducible first | exact HB.out | apply below_alloc | apply pw_below_drewN | apply below_drew1) | exact HB.out)) hb); clear HB; have HB := n0_; clear n0_; (try clear hb); (try clear hb2); (try clear hk); (try clear hi)) | (go_at_call 16; (with_reducible refine (incipitref05_Unescape.calls k a0 t127 _ A14.out).mono ?_); rintro e w22 ⟨rfl, hb⟩; have n0_ := Aside0.mk (below_step (by repeat (first | (with_reducible first | exact HB.out | apply below_alloc | apply pw_below_drewN | apply below_drew1) | exact HB.out)) hb); clear HB; have HB := n0_; clear n0_; (try clear hb); (try clear hb2); (try clear hk); (try clear hi)) | (go_at_call 17; (with_reducible refine (escape_Sign.calls a1 t128 _ A16.out).mono ?_); rintro e w23 ⟨rfl, hb⟩; have n0_ := Aside0.mk (below_step (by repeat (first | (with_reducible first | exact HB.out | apply below_alloc | apply pw_below_drewN | apply below_drew1) | exact HB.out)) hb); clear HB; have HB := n0_; clear n0_; (try clear hb); (try clear hb2); (try clear hk); (try clear hi)) | (go_at_call 18; (with_reducible refine (incipitref05_Sign.calls a1 t129 _ A17.out).mono ?_); rintro e w' ⟨rfl, ⟨nd, rfl⟩⟩))
            go_ret
            exact ⟨by first | rfl | (simp [errW_none, errW_some] <;> rfl) | (simp [*, errW_none, errW_some] <;> rfl), by repeat (first | (with_reducible first | exact HB.out | apply below_alloc | apply pw_below_drewN | apply below_drew1) | exact HB.out)⟩
          · rw [if_neg c15] at H
            have c15b0 : (t126.toList == t127.toList) = false := beq_eq_false_iff_ne.mpr c15
            have c15b1 : (t126.toList != t127.toList) = true := bne_iff_ne.mpr c15
            obtain rfl := Option.some.inj H
            go_enter Tryz.func3, Tryz.ntmps3
            go_wp2_with (first | ((with_reducible refine gate_callee (f := 10) rfl ?_); refine goesL_ (some 6) rfl rfl Tryz.func10 (by kernel_rfl) rfl #[] rfl (by (try simp only [List.map_toArray, List.map_cons, List.map_nil]); first | done | rfl | (simp only [List.length_drop, List.length_take]; rfl)) ?_; (with_reducible refine (incipitlaw05_awake.calls  true _ ?side1 A3.out).mono ?_); (case side1 => exact Laid.go hLd (by repeat (first | (with_reducible first | exact HB.out | apply below_alloc | apply pw_below_drewN | apply below_drew1) | exact HB.out))); rintro e w24 ⟨rfl, hb⟩; refine ⟨_, rfl, ?_⟩; have n0_ := Aside0.mk (below_step (by repeat (first | (with_reducible first | exact HB.out | apply below_alloc | apply pw_below_drewN | apply below_drew1) | exact HB.out)) hb); clear HB; have HB := n0_; clear n0_; (try clear hb); (try clear hb2); (try clear hk); (try clear hi)) | (go_at_call 11; (with_reducible refine (escape_Html.calls a0 t122 _ A7.out).mono ?_); rintro e w25 ⟨rfl, hb⟩; have n0_ := Aside0.mk (below_step (by repeat (first | (with_reducible first | exact HB.out | apply below_alloc | apply pw_below_drewN | apply below_drew1) | exact HB.out)) hb); clear HB; have HB := n0_; clear n0_; (try clear hb); (try clear hb2); (try clear hk); (try clear hi)) | (go_at_call 12; (with_reducible refine (incipitref05_Html.calls k a0 t123 _ A8.out).mono ?_); rintro e w' ⟨rfl, ⟨nd, rfl⟩⟩) | (go_at_call 13; (with_reducible refine (escape_Href.calls a0 t124 _ A10.out).mono ?_); rintro e w26 ⟨rfl, hb⟩; have n0_ := Aside0.mk (below_step (by repeat (first | (with_reducible first | exact HB.out | apply below_alloc | apply pw_below_drewN | apply below_drew1) | exact HB.out)) hb); clear HB; have HB := n0_; clear n0_; (try clear hb); (try clear hb2); (try clear hk); (try clear hi)) | (go_at_call 14; (with_reducible refine (incipitref05_Href.calls k a0 t125 _ A11.out).mono ?_); rintro e w' ⟨rfl, ⟨nd, rfl⟩⟩) | (go_at_call 15; (with_reducible refine (escape_Unescape.calls a0 t126 _ ?side1 A13.out).mono ?_); (case side1 => exact Laid.go hLd (by repeat (first | (with_reducible first | exact HB.out | apply below_alloc | apply pw_below_drewN | apply below_drew1) | exact HB.out))); rintro e w27 ⟨rfl, hb⟩; have n0_ := Aside0.mk (below_step (by repeat (first | (with_reducible first | exact HB.out | apply below_alloc | apply pw_below_drewN | apply below_drew1) | exact HB.out)) hb); clear HB; have HB := n0_; clear n0_; (try clear hb); (try clear hb2); (try clear hk); (try clear hi)) | (go_at_call 16; (with_reducible refine (incipitref05_Unescape.calls k a0 t127 _ A14.out).mono ?_); rintro e w28 ⟨rfl, hb⟩; have n0_ := Aside0.mk (below_step (by repeat (first | (with_reducible first | exact HB.out | apply below_alloc | apply pw_below_drewN | apply below_drew1) | exact HB.out)) hb); clear HB; have HB := n0_; clear n0_; (try clear hb); (try clear hb2); (try clear hk); (try clear hi)))
            go_ret
            exact ⟨by first | rfl | (simp [errW_none, errW_some] <;> rfl) | (simp [*, errW_none, errW_some] <;> rfl), by repeat (first | (with_reducible first | exact HB.out | apply below_alloc | apply pw_below_drewN | apply below_drew1) | exact HB.out)⟩
        · rw [if_neg c12] at H
          have c12b0 : (t124.toList == t125.toList) = false := beq_eq_false_iff_ne.mpr c12
          have c12b1 : (t124.toList != t125.toList) = true := bne_iff_ne.mpr c12
          obtain rfl := Option.some.inj H
          go_enter Tryz.func3, Tryz.ntmps3
          go_wp2_with (first | ((with_reducible refine gate_callee (f := 10) rfl ?_); refine goesL_ (some 6) rfl rfl Tryz.func10 (by kernel_rfl) rfl #[] rfl (by (try simp only [List.map_toArray, List.map_cons, List.map_nil]); first | done | rfl | (simp only [List.length_drop, List.length_take]; rfl)) ?_; (with_reducible refine (incipitlaw05_awake.calls  true _ ?side1 A3.out).mono ?_); (case side1 => exact Laid.go hLd (by repeat (first | (with_reducible first | exact HB.out | apply below_alloc | apply pw_below_drewN | apply below_drew1) | exact HB.out))); rintro e w29 ⟨rfl, hb⟩; refine ⟨_, rfl, ?_⟩; have n0_ := Aside0.mk (below_step (by repeat (first | (with_reducible first | exact HB.out | apply below_alloc | apply pw_below_drewN | apply below_drew1) | exact HB.out)) hb); clear HB; have HB := n0_; clear n0_; (try clear hb); (try clear hb2); (try clear hk); (try clear hi)) | (go_at_call 11; (with_reducible refine (escape_Html.calls a0 t122 _ A7.out).mono ?_); rintro e w30 ⟨rfl, hb⟩; have n0_ := Aside0.mk (below_step (by repeat (first | (with_reducible first | exact HB.out | apply below_alloc | apply pw_below_drewN | apply below_drew1) | exact HB.out)) hb); clear HB; have HB := n0_; clear n0_; (try clear hb); (try clear hb2); (try clear hk); (try clear hi)) | (go_at_call 12; (with_reducible refine (incipitref05_Html.calls k a0 t123 _ A8.out).mono ?_); rintro e w' ⟨rfl, ⟨nd, rfl⟩⟩) | (go_at_call 13; (with_reducible refine (escape_Href.calls a0 t124 _ A10.out).mono ?_); rintro e w31 ⟨rfl, hb⟩; have n0_ := Aside0.mk (below_step (by repeat (first | (with_reducible first | exact HB.out | apply below_alloc | apply pw_below_drewN | apply below_drew1) | exact HB.out)) hb); clear HB; have HB := n0_; clear n0_; (try clear hb); (try clear hb2); (try clear hk); (try clear hi)) | (go_at_call 14; (with_reducible refine (incipitref05_Href.calls k a0 t125 _ A11.out).mono ?_); rintro e w' ⟨rfl, ⟨nd, rfl⟩⟩))
          go_ret
          exact ⟨by first | rfl | (simp [errW_none, errW_some] <;> rfl) | (simp [*, errW_none, errW_some] <;> rfl), by repeat (first | (with_reducible first | exact HB.out | apply below_alloc | apply pw_below_drewN | apply below_drew1) | exact HB.out)⟩
      · rw [if_neg c9] at H
        have c9b0 : (t122.toList == t123.toList) = false := beq_eq_false_iff_ne.mpr c9
        have c9b1 : (t122.toList != t123.toList) = true := bne_iff_ne.mpr c9
        obtain rfl := Option.some.inj H
        go_enter Tryz.func3, Tryz.ntmps3
        go_wp2_with (first | ((with_reducible refine gate_callee (f := 10) rfl ?_); refine goesL_ (some 6) rfl rfl Tryz.func10 (by kernel_rfl) rfl #[] rfl (by (try simp only [List.map_toArray, List.map_cons, List.map_nil]); first | done | rfl | (simp only [List.length_drop, List.length_take]; rfl)) ?_; (with_reducible refine (incipitlaw05_awake.calls  true _ ?side1 A3.out).mono ?_); (case side1 => exact Laid.go hLd (by repeat (first | (with_reducible first | exact HB.out | apply below_alloc | apply pw_below_drewN | apply below_drew1) | exact HB.out))); rintro e w32 ⟨rfl, hb⟩; refine ⟨_, rfl, ?_⟩; have n0_ := Aside0.mk (below_step (by repeat (first | (with_reducible first | exact HB.out | apply below_alloc | apply pw_below_drewN | apply below_drew1) | exact HB.out)) hb); clear HB; have HB := n0_; clear n0_; (try clear hb); (try clear hb2); (try clear hk); (try clear hi)) | (go_at_call 11; (with_reducible refine (escape_Html.calls a0 t122 _ A7.out).mono ?_); rintro e w33 ⟨rfl, hb⟩; have n0_ := Aside0.mk (below_step (by repeat (first | (with_reducible first | exact HB.out | apply below_alloc | apply pw_below_drewN | apply below_drew1) | exact HB.out)) hb); clear HB; have HB := n0_; clear n0_; (try clear hb); (try clear hb2); (try clear hk); (try clear hi)) | (go_at_call 12; (with_reducible refine (incipitref05_Html.calls k a0 t123 _ A8.out).mono ?_); rintro e w' ⟨rfl, ⟨nd, rfl⟩⟩))
        go_ret
        exact ⟨by first | rfl | (simp [errW_none, errW_some] <;> rfl) | (simp [*, errW_none, errW_some] <;> rfl), by repeat (first | (with_reducible first | exact HB.out | apply below_alloc | apply pw_below_drewN | apply below_drew1) | exact HB.out)⟩
    · replace c6 := Bool.eq_false_iff.mpr c6
      subst c6
      have H1 : (some false) = some r := by rw [if_neg (show ¬ (false = true) by decide)] at H; exact H
      clear H
      have H := H1
      clear H1
      obtain rfl := Option.some.inj H
      go_enter Tryz.func3, Tryz.ntmps3
      go_wp2_with (first | ((with_reducible refine gate_callee (f := 10) rfl ?_); refine goesL_ (some 6) rfl rfl Tryz.func10 (by kernel_rfl) rfl #[] rfl (by (try simp only [List.map_toArray, List.map_cons, List.map_nil]); first | done | rfl | (simp only [List.length_drop, List.length_take]; rfl)) ?_; (with_reducible refine (incipitlaw05_awake.calls  false _ ?side1 A3.out).mono ?_); (case side1 => exact Laid.go hLd (by repeat (first | (with_reducible first | exact HB.out | apply below_alloc | apply pw_below_drewN | apply below_drew1) | exact HB.out))); rintro e w34 ⟨rfl, hb⟩; refine ⟨_, rfl, ?_⟩; have n0_ := Aside0.mk (below_step (by repeat (first | (with_reducible first | exact HB.out | apply below_alloc | apply pw_below_drewN | apply below_drew1) | exact HB.out)) hb); clear HB; have HB := n0_; clear n0_; (try clear hb); (try clear hb2); (try clear hk); (try clear hi)))
      go_ret
      exact ⟨by first | rfl | (simp [errW_none, errW_some] <;> rfl) | (simp [*, errW_none, errW_some] <;> rfl), by repeat (first | (with_reducible first | exact HB.out | apply below_alloc | apply pw_below_drewN | apply below_drew1) | exact HB.out)⟩

end Go.Proofs.YtinpchebcnkckaaGreatDoor.PA
