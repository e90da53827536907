/-
  The contract of escape.Href. Condition: a text of at most 2^20 bytes.
-/
import Derived.Test.YtinpchebcnkckaaGreatDoorPHtm
import Derived.Test.YtinpchebcnkckaaGreatDoorPAx0
import Derived.Test.YtinpchebcnkckaaGreatDoorShelf
import Derived.Test.YtinpchebcnkckaaGreatDoorGNum
import Derived.WalkKit
import Derived.BigCall
namespace Go.Proofs.YtinpchebcnkckaaGreatDoor.PA
open Go.RowKit Go.Proofs.YtinpchebcnkckaaGreatDoor.Pl Go.Proofs.YtinpchebcnkckaaGreatDoorW.PrintWords
set_option linter.unusedVariables false

def ltr (x : UInt8) : Bool := decide (97 ≤ (x.toNat ||| 32)) && decide ((x.toNat ||| 32) ≤ 122)
def dgt (x : UInt8) : Bool := decide (48 ≤ x.toNat) && decide (x.toNat ≤ 57)
def plL : List UInt8 := [33, 35, 36, 37, 40, 41, 42, 43, 44, 45, 46, 47, 58, 59, 61, 63, 64, 95, 126]
theorem pln_eq (x : UInt8) : pln x = (ltr x || dgt x || decide (0 ≤ Lib.indexByte plL x)) := by
  have h : ∀ y : Fin 256, pln (UInt8.ofNat y.val) = (ltr (UInt8.ofNat y.val) || dgt (UInt8.ofNat y.val) || decide (0 ≤ Lib.indexByte plL (UInt8.ofNat y.val))) := by decide +kernel
  have := h ⟨x.toNat, x.toNat_lt⟩
  simpa using this
theorem ltr_any (x : UInt8) (w : World) : Calls Tryz.prog 22 #[.int .u8 (x.toNat : Int)] w fun e w' => e = .returned (.bool (ltr x)) ∧ w' = w := by
  have h32 := or32 x
  by_cases h1 : 97 ≤ (x.toNat ||| 32)
  · have hl : ltr x = decide ((x.toNat ||| 32) ≤ 122) := by unfold ltr; rw [decide_eq_true h1, Bool.true_and]
    have q : decide ((97 : Int) ≤ ((x.toNat ||| 32 : Nat) : Int)) = true := decide_eq_true (by omega)
    have q2 : decide (((x.toNat ||| 32 : Nat) : Int) ≤ 122) = ltr x := by rw [hl]; exact decide_eq_decide.2 (by omega)
    have Q := Lib.hid q2
    clear hl q2
    go_enter Tryz.func22, Tryz.ntmps22
    go_wp2
    go_ret
    exact ⟨congrArg (fun z => Ending.returned (.bool z)) Q.out, rfl⟩
  · have hl : ltr x = false := by unfold ltr; rw [decide_eq_false h1, Bool.false_and]
    have q : decide ((97 : Int) ≤ ((x.toNat ||| 32 : Nat) : Int)) = false := decide_eq_false (by omega)
    rw [hl]
    clear hl h1
    go_enter Tryz.func22, Tryz.ntmps22
    go_wp2
    go_ret
    exact ⟨rfl, rfl⟩
theorem dgt_any (x : UInt8) (w : World) : Calls Tryz.prog 23 #[.int .u8 (x.toNat : Int)] w fun e w' => e = .returned (.bool (dgt x)) ∧ w' = w := by
  by_cases h1 : 48 ≤ x.toNat
  · have hl : dgt x = decide (x.toNat ≤ 57) := by unfold dgt; rw [decide_eq_true h1, Bool.true_and]
    have q : decide ((48 : Int) ≤ (x.toNat : Int)) = true := decide_eq_true (by omega)
    have q2 : decide ((x.toNat : Int) ≤ 57) = dgt x := by rw [hl]; exact decide_eq_decide.2 (by omega)
    have Q := Lib.hid q2
    clear hl q2
    go_enter Tryz.func23, Tryz.ntmps23
    go_wp2
    go_ret
    exact ⟨congrArg (fun z => Ending.returned (.bool z)) Q.out, rfl⟩
  · have hl : dgt x = false := by unfold dgt; rw [decide_eq_false h1, Bool.false_and]
    have q : decide ((48 : Int) ≤ (x.toNat : Int)) = false := decide_eq_false (by omega)
    rw [hl]
    clear hl h1
    go_enter Tryz.func23, Tryz.ntmps23
    go_wp2
    go_ret
    exact ⟨rfl, rfl⟩
def hexT : ByteArray := ⟨#[48, 49, 50, 51, 52, 53, 54, 55, 56, 57, 65, 66, 67, 68, 69, 70]⟩
theorem hexT_at : ∀ j : Fin 16, (hexT[j.val]'(by have := j.isLt; exact this)) = hxd16 j.val := by decide
theorem and15 (x : UInt8) : bits .and .u8 (x.toNat : Int) 15 = ((x.toNat % 16 : Nat) : Int) := by
  have h : ∀ y : Fin 256, bits .and .u8 (y.val : Int) 15 = ((y.val % 16 : Nat) : Int) := by decide +kernel
  exact h ⟨x.toNat, x.toNat_lt⟩
set_option maxHeartbeats 4000000 in
set_option maxRecDepth 100000 in
theorem href_walk (s : List UInt8) (hs : s.length ≤ 1048576) (w : World) :
    Calls Tryz.prog 13 #[.string (B s)] w fun e w' => e = .returned (.string (B (hrf s))) ∧ Below w.heap.size w w' := by
  have hsz : (B s).size = s.length := B_size s
  go_enter Tryz.func13, Tryz.ntmps13
  go_wp2
  go_loopw [8] (fun v8 wr => ∃ k : Nat, k ≤ s.length ∧ v8 = .int .i64 (k : Int) ∧ Hid (Lib.IsBuilder 33 5 w.heap.size w.heap.size (Lib.byteCells (hrf (s.take k))) wr) ∧ Hid (Below w.heap.size w wr)) (fun v8 _ => s.length - (intOf v8).toNat)
  case atStart => exact ⟨0, Nat.zero_le _, rfl, Lib.hid (Lib.fresh_isBuilder _ _ w), Lib.hid ((Below.refl _ w).alloc (Nat.le_refl _) _)⟩
  case round =>
    obtain ⟨k, hk, rfl, HI, HB⟩ := hrel
    by_cases hkn : k < s.length
    · have hks : k < (B s).size := by omega
      have hi : (B s)[k]'hks = s[k] := List.getElem_toArray hkn
      obtain ⟨x, hx⟩ : ∃ x, s[k] = x := ⟨_, rfl⟩
      have htk : hrf (s.take (k + 1)) = hrf (s.take k) ++ adr x := by
        rw [List.take_succ_eq_append_getElem hkn, hrf_append, ← hx]
        simp [hrf]
        try rfl
      rw [hx] at hi
      have hbd := (hrf_len (s.take k)).2
      rw [List.length_take] at hbd
      have HX := Lib.hid (show (hrf (s.take k)).length ≤ 6291456 by omega)
      have HT := Lib.hid htk
      have hbs := HB.out.size
      have hxl := x.toNat_lt
      clear htk hbd hx
      generalize hrf (s.take k) = acc at *
      have e38 := u8_eq x 38 (by decide)
      have e39 := u8_eq x 39 (by decide)
      by_cases h38 : x = 38
      · have q : ((x.toNat : Int) == 38) = true := beq_iff_eq.2 (e38.2 h38)
        have HA := Lib.hid (show adr x = [38, 97, 109, 112, 59] by unfold adr; rw [if_pos h38])
        clear e38 e39 h38
        go_wp2_with (go_at_call 21; refine (Tryz.Builder_WriteString w.heap.size w.heap.size _ ⟨#[38, 97, 109, 112, 59]⟩ _ HI.out (by have := HX.out; rw [Lib.byteCells_length]; show _ + 5 ≤ _; omega) hbs).mono ?_; rintro e w1 ⟨rfl, h1, b1⟩)
        have HI1 := Lib.hid h1
        have HB1 := Lib.hid (HB.out.trans b1)
        clear h1 b1
        go_wp2
        go_roundw
        case rel =>
          refine ⟨k + 1, hkn, by go_num, ?_, HB1⟩
          rw [HT.out, HA.out, Lib.byteCells_append]
          exact Lib.hid (.inr HI1.out)
        case measure => simp [intOf]; omega
      · have q : ((x.toNat : Int) == 38) = false := beq_eq_false_iff_ne.2 (fun e => h38 (e38.1 e))
        by_cases h39 : x = 39
        · have q2 : ((x.toNat : Int) == 39) = true := beq_iff_eq.2 (e39.2 h39)
          have HA := Lib.hid (show adr x = [38, 35, 51, 57, 59] by unfold adr; rw [if_neg h38, if_pos h39])
          clear e38 e39 h38 h39
          go_wp2_with (go_at_call 21; refine (Tryz.Builder_WriteString w.heap.size w.heap.size _ ⟨#[38, 35, 51, 57, 59]⟩ _ HI.out (by have := HX.out; rw [Lib.byteCells_length]; show _ + 5 ≤ _; omega) hbs).mono ?_; rintro e w1 ⟨rfl, h1, b1⟩)
          have HI1 := Lib.hid h1
          have HB1 := Lib.hid (HB.out.trans b1)
          clear h1 b1
          go_wp2
          go_roundw
          case rel =>
            refine ⟨k + 1, hkn, by go_num, ?_, HB1⟩
            rw [HT.out, HA.out, Lib.byteCells_append]
            exact Lib.hid (.inr HI1.out)
          case measure => simp [intOf]; omega
        · have q2 : ((x.toNat : Int) == 39) = false := beq_eq_false_iff_ne.2 (fun e => h39 (e39.1 e))
          have hadr : adr x = if pln x = true then [x] else [37, hxd16 (x.toNat / 16), hxd16 (x.toNat % 16)] := by unfold adr; rw [if_neg h38, if_neg h39]
          have hpl := pln_eq x
          have HL := Lib.hid (ltr_any x)
          have HDg := Lib.hid (dgt_any x)
          have HIx := Lib.hid (Tryz.strings_IndexByte ⟨#[33, 35, 36, 37, 40, 41, 42, 43, 44, 45, 46, 47, 58, 59, 61, 63, 64, 95, 126]⟩ (x.toNat : Int))
          have ex : (x.toNat : Int).toNat.toUInt8 = x := by rw [Int.toNat_natCast]; simp [Nat.toUInt8]
          rw [ex] at HIx
          obtain ⟨R, hR⟩ : ∃ R, Lib.indexByte plL x = R := ⟨_, rfl⟩
          rw [hR] at hpl
          change Hid (∀ W, Calls _ _ _ W fun e w' => e = .returned (.int .i64 (Lib.indexByte plL x)) ∧ w' = W) at HIx
          rw [hR] at HIx
          clear e38 e39 h38 h39 ex hR
          cases hL : ltr x with
          | true =>
            rw [hL] at hpl HL
            have HA := Lib.hid (show adr x = [x] by rw [hadr, hpl]; rfl)
            clear hL hpl hadr
            go_wp2_with (first | (go_at_call 22; refine (HL.out _).mono ?_; rintro e w1 ⟨rfl, rfl⟩) | (go_at_call 25; refine (Tryz.Builder_WriteByte w.heap.size w.heap.size _ (x.toNat : Int) _ HI.out (by have := HX.out; simp only [List.length_append, Lib.byteCells_length, List.length_cons, List.length_nil]; omega) hbs).mono ?_; rintro e w1 ⟨rfl, h1, b1⟩))
            have HI1 := Lib.hid h1
            have HB1 := Lib.hid (HB.out.trans b1)
            clear h1 b1
            go_wp2
            go_roundw
            case rel =>
              refine ⟨k + 1, hkn, by go_num, ?_, HB1⟩
              rw [HT.out, HA.out, Lib.byteCells_append]
              exact Lib.hid (.inr HI1.out)
            case measure => simp [intOf]; omega
          | false =>
            rw [hL] at hpl HL
            cases hD : dgt x with
            | true =>
              rw [hD] at hpl HDg
              have HA := Lib.hid (show adr x = [x] by rw [hadr, hpl]; rfl)
              clear hL hD hpl hadr
              go_wp2_with (first | (go_at_call 22; refine (HL.out _).mono ?_; rintro e w1 ⟨rfl, rfl⟩) | (go_at_call 23; refine (HDg.out _).mono ?_; rintro e w1 ⟨rfl, rfl⟩) | (go_at_call 25; refine (Tryz.Builder_WriteByte w.heap.size w.heap.size _ (x.toNat : Int) _ HI.out (by have := HX.out; simp only [List.length_append, Lib.byteCells_length, List.length_cons, List.length_nil]; omega) hbs).mono ?_; rintro e w1 ⟨rfl, h1, b1⟩))
              have HI1 := Lib.hid h1
              have HB1 := Lib.hid (HB.out.trans b1)
              clear h1 b1
              go_wp2
              go_roundw
              case rel =>
                refine ⟨k + 1, hkn, by go_num, ?_, HB1⟩
                rw [HT.out, HA.out, Lib.byteCells_append]
                exact Lib.hid (.inr HI1.out)
              case measure => simp [intOf]; omega
            | false =>
              rw [hD] at hpl HDg
              by_cases h0 : 0 ≤ R
              · have HA := Lib.hid (show adr x = [x] by rw [hadr, hpl, decide_eq_true h0]; rfl)
                have q3 : decide (0 ≤ R) = true := decide_eq_true h0
                clear hL hD hpl hadr h0
                go_wp2_with (first | (go_at_call 22; refine (HL.out _).mono ?_; rintro e w1 ⟨rfl, rfl⟩) | (go_at_call 23; refine (HDg.out _).mono ?_; rintro e w1 ⟨rfl, rfl⟩) | (go_at_call 24; refine (HIx.out _).mono ?_; rintro e w1 ⟨rfl, rfl⟩) | (go_at_call 25; refine (Tryz.Builder_WriteByte w.heap.size w.heap.size _ (x.toNat : Int) _ HI.out (by have := HX.out; simp only [List.length_append, Lib.byteCells_length, List.length_cons, List.length_nil]; omega) hbs).mono ?_; rintro e w1 ⟨rfl, h1, b1⟩))
                have HI1 := Lib.hid h1
                have HB1 := Lib.hid (HB.out.trans b1)
                clear h1 b1
                go_wp2
                go_roundw
                case rel =>
                  refine ⟨k + 1, hkn, by go_num, ?_, HB1⟩
                  rw [HT.out, HA.out, Lib.byteCells_append]
                  exact Lib.hid (.inr HI1.out)
                case measure => simp [intOf]; omega
              · have HA := Lib.hid (show adr x = [37, hxd16 (x.toNat / 16), hxd16 (x.toNat % 16)] by rw [hadr, hpl, decide_eq_false h0]; rfl)
                have q3 : decide (0 ≤ R) = false := decide_eq_false h0
                obtain ⟨y1, hy1⟩ : ∃ y, hxd16 (x.toNat / 16) = y := ⟨_, rfl⟩
                obtain ⟨y2, hy2⟩ : ∃ y, hxd16 (x.toNat % 16) = y := ⟨_, rfl⟩
                rw [hy1, hy2] at HA
                have hx1 : ((⟨#[48, 49, 50, 51, 52, 53, 54, 55, 56, 57, 65, 66, 67, 68, 69, 70]⟩ : ByteArray)[x.toNat / 16]'(by show _ < 16; omega)) = y1 := by rw [← hy1]; exact hexT_at ⟨x.toNat / 16, by omega⟩
                have hx2 : ((⟨#[48, 49, 50, 51, 52, 53, 54, 55, 56, 57, 65, 66, 67, 68, 69, 70]⟩ : ByteArray)[x.toNat % 16]'(by show _ < 16; omega)) = y2 := by rw [← hy2]; exact hexT_at ⟨x.toNat % 16, by omega⟩
                have hand : bits .and .u8 (x.toNat : Int) 15 = ((x.toNat % 16 : Nat) : Int) := and15 x
                clear hL hD hpl hadr h0 hy1 hy2
                go_wp2_with fail
                refine (HL.out _).mono ?_
                rintro e w1 ⟨rfl, rfl⟩
                go_wp2_with fail
                refine (HDg.out _).mono ?_
                rintro e w1 ⟨rfl, rfl⟩
                go_wp2_with fail
                refine (HIx.out _).mono ?_
                rintro e w1 ⟨rfl, rfl⟩
                go_wp2_with fail
                refine (Tryz.Builder_WriteByte w.heap.size w.heap.size _ 37 _ HI.out (by have := HX.out; rw [Lib.byteCells_length]; omega) hbs).mono ?_
                rintro e w1 ⟨rfl, h1, b1⟩
                have HI1 : Hid (Lib.IsBuilder 33 5 w.heap.size w.heap.size (Lib.byteCells acc ++ [.int .u8 37]) w1) := Lib.hid (.inr h1)
                have HB1 := Lib.hid (HB.out.trans b1)
                have hbs1 := HB1.out.size
                clear h1 b1
                go_wp2_with fail
                refine (Tryz.Builder_WriteByte w.heap.size w.heap.size _ (y1.toNat : Int) _ HI1.out (by have := HX.out; rw [List.length_append, Lib.byteCells_length]; show _ + 1 + 1 ≤ _; omega) hbs1).mono ?_
                rintro e w2 ⟨rfl, h2, b2⟩
                have HI2 : Hid (Lib.IsBuilder 33 5 w.heap.size w.heap.size (Lib.byteCells acc ++ [.int .u8 37] ++ [.int .u8 (y1.toNat : Int)]) w2) := Lib.hid (.inr h2)
                have HB2 := Lib.hid (HB1.out.trans b2)
                have hbs2 := HB2.out.size
                clear h2 b2
                go_wp2_with fail
                refine (Tryz.Builder_WriteByte w.heap.size w.heap.size _ (y2.toNat : Int) _ HI2.out (by have := HX.out; rw [List.length_append, List.length_append, Lib.byteCells_length]; show _ + 1 + 1 + 1 ≤ _; omega) hbs2).mono ?_
                rintro e w3 ⟨rfl, h3, b3⟩
                have HI3 := Lib.hid h3
                have HB3 := Lib.hid (HB2.out.trans b3)
                clear h3 b3
                go_wp2
                go_roundw
                case rel =>
                  refine ⟨k + 1, hkn, by go_num, ?_, HB3⟩
                  rw [HT.out, HA.out, Lib.byteCells_append]
                  have h4 := HI3.out
                  rw [List.append_assoc, List.append_assoc] at h4
                  exact Lib.hid (.inr h4)
                case measure => simp [intOf]; omega
    · obtain rfl : k = s.length := by omega
      rw [List.take_length] at HI
      have hbs := HB.out.size
      go_wp2_with (go_at_call 26; refine (Tryz.Builder_String_any w.heap.size w.heap.size (hrf s) _ HI.out hbs).mono ?_; rintro e w1 ⟨rfl, hb1⟩)
      go_ret
      exact ⟨rfl, HB.out.trans hb1⟩
def escape_Href.f (a0 : ByteArray) : Option ByteArray := if a0.size ≤ 1048576 then some (B (hrf a0.data.toList)) else none
theorem escape_Href.calls (a0 : ByteArray) (r : ByteArray) (w : World) (h : escape_Href.f a0 = some r) :
    Calls Tryz.prog 13 #[.string a0] w fun e w' => e = .returned (.string r) ∧ Below w.heap.size w w' := by
  unfold escape_Href.f at h
  split at h
  · rename_i hc
    obtain rfl := Option.some.inj h
    exact href_walk a0.data.toList (by rw [Array.length_toList]; exact hc) w
  · cases h
end Go.Proofs.YtinpchebcnkckaaGreatDoor.PA
