/-
  The contract of entity.Read. Conditions: a text of at most 2^30 bytes; internal/bytealg.MaxLen holds a whole number ('Laid').
-/
import Derived.Test.YtinpchebcnkckaaGreatDoorPRd1
namespace Go.Proofs.YtinpchebcnkckaaGreatDoor.PA
open Go.RowKit Go.Proofs.YtinpchebcnkckaaGreatDoor.Pl Go.Proofs.YtinpchebcnkckaaGreatDoorW.PrintWords Go.Proofs.YtinpchebcnkckaaGreatDoorW.PrintMore Go.Proofs.YtinpchebcnkckaaGreatDoor.Pure
set_option linter.unusedVariables false

theorem pre38 (s : List UInt8) (w : World) : Calls Tryz.prog 35 #[.string (B s), .string ⟨#[38]⟩] w fun e w' => e = .returned (.bool (decide (s.head? = some 38))) ∧ Drawn0 w w' := by
  refine strings_HasPrefix.calls (B s) ⟨#[38]⟩ _ w ?_
  unfold strings_HasPrefix.f
  rw [B_data, show (⟨#[38]⟩ : ByteArray).data.toList = [38] from rfl]
  congr 1
  cases s with
  | nil => rfl
  | cons x t =>
    by_cases hx : x = 38
    · subst hx
      simp [Lib.hasPrefix, List.isPrefixOf]
    · simp [Lib.hasPrefix, List.isPrefixOf, hx]
      exact fun e => hx e.symm
theorem cutB (t : List UInt8) (ht : t.length ≤ 1073741824) (w : World) (hLd : Laid w) : Calls Tryz.prog 36 #[.string (B t), .string ⟨#[59]⟩] w fun e w' =>
    e = .returned (if (59 : UInt8) ∈ t then .tuple #[.string (B (upto t)), .string (B (t.drop ((upto t).length + 1))), .bool true] else .tuple #[.string (B t), .string (B []), .bool false]) ∧ Below w.heap.size w w' := by
  by_cases h : (59 : UInt8) ∈ t
  · rw [if_pos h]
    refine strings_Cut.calls (B t) ⟨#[59]⟩ _ _ _ w hLd ?_
    unfold strings_Cut.f
    rw [if_pos (by rw [B_size]; omega), B_data, show (⟨#[59]⟩ : ByteArray).data.toList = [59] from rfl, cut59, if_pos h]
    rfl
  · rw [if_neg h]
    refine strings_Cut.calls (B t) ⟨#[59]⟩ _ _ _ w hLd ?_
    unfold strings_Cut.f
    rw [if_pos (by rw [B_size]; omega), B_data, show (⟨#[59]⟩ : ByteArray).data.toList = [59] from rfl, cut59, if_neg h]
    rfl
set_option maxHeartbeats 2000000 in
set_option maxRecDepth 100000 in
theorem read_walk (s : List UInt8) (hs : s.length ≤ 1073741824) (w : World) (hLd : Laid w) :
    Calls Tryz.prog 28 #[.string (B s)] w fun e w' => e = .returned (.tuple #[.string (rdE s).1, .int .i64 (rdE s).2]) ∧ Below w.heap.size w w' := by
  have HP := Lib.hid (pre38 s)
  have HL := Lib.hid hLd
  clear hLd
  by_cases h38 : s.head? = some 38
  · rw [decide_eq_true h38] at HP
    obtain ⟨t, rfl⟩ : ∃ t, s = 38 :: t := by
      cases s with
      | nil => cases h38
      | cons x t => exact ⟨t, by rw [Option.some.inj h38]⟩
    rw [List.length_cons] at hs
    have hsz : (B (38 :: t)).size = t.length + 1 := B_size _
    have hz1 : 1 ≤ (B (38 :: t)).size := by omega
    have hex : (B (38 :: t)).extract 1 (B (38 :: t)).size = B t := B_from (38 :: t) 1 _ (B_size _)
    have hex2 : (B (38 :: t)).extract 1 (t.length + 1) = B t := B_from (38 :: t) 1 _ rfl
    have hC := Lib.hid (cutB t (by omega))
    have hrd : rdE (38 :: t) = if (59 : UInt8) ∈ t then if (bdy (upto t)).2 = true then ((bdy (upto t)).1, ((upto t).length : Int) + 2) else (⟨#[]⟩, 0) else (⟨#[]⟩, 0) := by rw [rdE, if_pos rfl]
    rw [hrd]
    have hul := upto_len t
    clear hrd h38
    generalize B (38 :: t) = S at *
    by_cases h59 : (59 : UInt8) ∈ t
    · rw [if_pos h59] at hC ⊢
      have hB := Lib.hid (entity_body.calls (B (upto t)) (bdy (upto t)).1 (bdy (upto t)).2)
      have hf : entity_body.f (B (upto t)) = some ((bdy (upto t)).1, (bdy (upto t)).2) := by unfold entity_body.f; rw [if_pos (by rw [B_size]; omega), B_data]
      have HF := Lib.hid hf
      have hus : (B (upto t)).size = (upto t).length := B_size _
      clear hf h59
      generalize B (upto t) = U at *
      generalize B (t.drop ((upto t).length + 1)) = V at *
      generalize (bdy (upto t)).1 = Q1 at *
      cases hb : (bdy (upto t)).2 with
      | true =>
        rw [hb] at hB HF
        clear hb
        rw [if_pos rfl]
        generalize (upto t).length = n at *
        go_enter Tryz.func28, Tryz.ntmps28
        go_wp2_with fail
        refine (HP.out _).mono ?_
        rintro e w1 ⟨rfl, hd⟩
        have HB1 := Lib.hid hd.below
        clear hd
        go_wp2_with fail
        with_reducible refine (hC.out _ (HL.out.go HB1.out)).mono ?_
        rintro e w2 ⟨rfl, hb2⟩
        have HB2 := Lib.hid (HB1.out.trans (hb2.mono HB1.out.size))
        clear hb2
        go_wp2_with fail
        refine (hB.out _ HF.out).mono ?_
        rintro e w3 ⟨rfl, hb3⟩
        have HB3 := Lib.hid (HB2.out.trans (hb3.mono HB2.out.size))
        clear hb3
        go_wp2
        go_ret2
        exact ⟨rfl, HB3.out⟩
      | false =>
        rw [hb] at hB HF
        clear hb
        rw [if_neg (by decide)]
        go_enter Tryz.func28, Tryz.ntmps28
        go_wp2_with fail
        refine (HP.out _).mono ?_
        rintro e w1 ⟨rfl, hd⟩
        have HB1 := Lib.hid hd.below
        clear hd
        go_wp2_with fail
        with_reducible refine (hC.out _ (HL.out.go HB1.out)).mono ?_
        rintro e w2 ⟨rfl, hb2⟩
        have HB2 := Lib.hid (HB1.out.trans (hb2.mono HB1.out.size))
        clear hb2
        go_wp2_with fail
        refine (hB.out _ HF.out).mono ?_
        rintro e w3 ⟨rfl, hb3⟩
        have HB3 := Lib.hid (HB2.out.trans (hb3.mono HB2.out.size))
        clear hb3
        go_wp2
        go_ret2
        exact ⟨rfl, HB3.out⟩
    · rw [if_neg h59] at hC ⊢
      generalize B t = V at *
      generalize B [] = V0 at *
      clear h59
      go_enter Tryz.func28, Tryz.ntmps28
      go_wp2_with fail
      refine (HP.out _).mono ?_
      rintro e w1 ⟨rfl, hd⟩
      have HB1 := Lib.hid hd.below
      clear hd
      go_wp2_with fail
      refine (hC.out _ (HL.out.go HB1.out)).mono ?_
      rintro e w2 ⟨rfl, hb2⟩
      have HB2 := Lib.hid (HB1.out.trans (hb2.mono HB1.out.size))
      clear hb2
      go_wp2
      go_ret2
      exact ⟨rfl, HB2.out⟩
  · rw [decide_eq_false h38] at HP
    have hrd : rdE s = (⟨#[]⟩, 0) := by
      cases s with
      | nil => rfl
      | cons x t => rw [rdE, if_neg (fun e => h38 (by rw [e]; rfl))]
    rw [hrd]
    clear hrd h38
    go_enter Tryz.func28, Tryz.ntmps28
    go_wp2_with fail
    refine (HP.out _).mono ?_
    rintro e w1 ⟨rfl, hd⟩
    have HB1 := Lib.hid hd.below
    clear hd
    go_wp2
    go_ret2
    exact ⟨rfl, HB1.out⟩
end Go.Proofs.YtinpchebcnkckaaGreatDoor.PA
