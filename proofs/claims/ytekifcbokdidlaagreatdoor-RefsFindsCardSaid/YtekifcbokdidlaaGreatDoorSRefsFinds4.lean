/-
  Texts of the proof of RefsFinds, part 4 of 7: contracts and plain laws. Conditions: see each statement.
-/
import Derived.Test.YtekifcbokdidlaaGreatDoorSRefsFinds3
import Derived.Test.YtekifcbokdidlaaGreatDoorSRefsFinds1
import Derived.WalkKit
import Derived.BigCall
import Derived.Lib.Hide
import Derived.ChangeKeysEq
import Derived.KernelRfl
import Derived.WalkLawsBesides
import Derived.Laws.Cover4
import Derived.OneCell
import Derived.Test.YtekifcbokdidlaaGreatDoorSRefsFinds2
import Derived.Lib.SplitLaws
import Derived.BigQuiet
import Derived.Deep.QuietTactic
import Derived.Deep.RegionHeld3
import Derived.Shelf.SlicesQ.IndexFunc
import Derived.Shelf.SlGeneric
set_option linter.unusedVariables false
namespace Go.Proofs.YtekifcbokdidlaaGreatDoor.PA
open Go.RowKit Go.Proofs.YtekifcbokdidlaaGreatDoor.Pl Go.Proofs.YtekifcbokdidlaaGreatDoorW.PrintWords Go.Proofs.YtekifcbokdidlaaGreatDoorW.PrintMore Go.Proofs.YtekifcbokdidlaaGreatDoor.Pure
set_option linter.unusedVariables false

theorem pre38 (s : List UInt8) (w : World) : Calls Tryz.prog 44 #[.string (B s), .string ⟨#[38]⟩] w fun e w' => e = .returned (.bool (decide (s.head? = some 38))) ∧ Drawn0 w w' := by
  refine strings_HasPrefix.calls (B s) ⟨#[38]⟩ _ w ?_
  unfold strings_HasPrefix.f
  rw [B_data, show (⟨#[38]⟩ : ByteArray).data.toList = [38] from rfl]
  congr 1
  cases s with
  | nil => rfl
  | cons x t =>
    by_cases hx : x = 38
    · subst hx
      simp [Lib.hasPrefix, List.isPrefixOf]
    · simp [Lib.hasPrefix, List.isPrefixOf, hx]
      exact fun e => hx e.symm
theorem cutB (t : List UInt8) (ht : t.length ≤ 1073741824) (w : World) (hLd : Laid w) : Calls Tryz.prog 98 #[.string (B t), .string ⟨#[59]⟩] w fun e w' =>
    e = .returned (if (59 : UInt8) ∈ t then .tuple #[.string (B (upto t)), .string (B (t.drop ((upto t).length + 1))), .bool true] else .tuple #[.string (B t), .string (B []), .bool false]) ∧ Below w.heap.size w w' := by
  by_cases h : (59 : UInt8) ∈ t
  · rw [if_pos h]
    refine strings_Cut.calls (B t) ⟨#[59]⟩ _ _ _ w hLd ?_
    unfold strings_Cut.f
    rw [if_pos (by rw [B_size]; omega), B_data, show (⟨#[59]⟩ : ByteArray).data.toList = [59] from rfl, cut59, if_pos h]
    rfl
  · rw [if_neg h]
    refine strings_Cut.calls (B t) ⟨#[59]⟩ _ _ _ w hLd ?_
    unfold strings_Cut.f
    rw [if_pos (by rw [B_size]; omega), B_data, show (⟨#[59]⟩ : ByteArray).data.toList = [59] from rfl, cut59, if_neg h]
    rfl
set_option maxHeartbeats 2000000 in
set_option maxRecDepth 100000 in
theorem read_walk (s : List UInt8) (hs : s.length ≤ 1073741824) (w : World) (hLd : Laid w) :
    Calls Tryz.prog 77 #[.string (B s)] w fun e w' => e = .returned (.tuple #[.string (rdE s).1, .int .i64 (rdE s).2]) ∧ Below w.heap.size w w' := by
  have HP := Lib.hid (pre38 s)
  have HL := Lib.hid hLd
  clear hLd
  by_cases h38 : s.head? = some 38
  · rw [decide_eq_true h38] at HP
    obtain ⟨t, rfl⟩ : ∃ t, s = 38 :: t := by
      cases s with
      | nil => cases h38
      | cons x t => exact ⟨t, by rw [Option.some.inj h38]⟩
    rw [List.length_cons] at hs
    have hsz : (B (38 :: t)).size = t.length + 1 := B_size _
    have hz1 : 1 ≤ (B (38 :: t)).size := by omega
    have hex : (B (38 :: t)).extract 1 (B (38 :: t)).size = B t := B_from (38 :: t) 1 _ (B_size _)
    have hex2 : (B (38 :: t)).extract 1 (t.length + 1) = B t := B_from (38 :: t) 1 _ rfl
    have hC := Lib.hid (cutB t (by omega))
    have hrd : rdE (38 :: t) = if (59 : UInt8) ∈ t then if (bdy (upto t)).2 = true then ((bdy (upto t)).1, ((upto t).length : Int) + 2) else (⟨#[]⟩, 0) else (⟨#[]⟩, 0) := by rw [rdE, if_pos rfl]
    rw [hrd]
    have hul := upto_len t
    clear hrd h38
    generalize B (38 :: t) = S at *
    by_cases h59 : (59 : UInt8) ∈ t
    · rw [if_pos h59] at hC ⊢
      have hB := Lib.hid (entity_body.calls (B (upto t)) (bdy (upto t)).1 (bdy (upto t)).2)
      have hf : entity_body.f (B (upto t)) = some ((bdy (upto t)).1, (bdy (upto t)).2) := by unfold entity_body.f; rw [if_pos (by rw [B_size]; omega), B_data]
      have HF := Lib.hid hf
      have hus : (B (upto t)).size = (upto t).length := B_size _
      clear hf h59
      generalize B (upto t) = U at *
      generalize B (t.drop ((upto t).length + 1)) = V at *
      generalize (bdy (upto t)).1 = Q1 at *
      cases hb : (bdy (upto t)).2 with
      | true =>
        rw [hb] at hB HF
        clear hb
        rw [if_pos rfl]
        generalize (upto t).length = n at *
        go_enter Tryz.func77, Tryz.ntmps77
        go_wp2_with fail
        refine (HP.out _).mono ?_
        rintro e w1 ⟨rfl, hd⟩
        have HB1 := Lib.hid hd.below
        clear hd
        go_wp2_with fail
        with_reducible refine (hC.out _ (HL.out.go HB1.out)).mono ?_
        rintro e w2 ⟨rfl, hb2⟩
        have HB2 := Lib.hid (HB1.out.trans (hb2.mono HB1.out.size))
        clear hb2
        go_wp2_with fail
        refine (hB.out _ HF.out).mono ?_
        rintro e w3 ⟨rfl, hb3⟩
        have HB3 := Lib.hid (HB2.out.trans (hb3.mono HB2.out.size))
        clear hb3
        go_wp2
        go_ret2
        exact ⟨rfl, HB3.out⟩
      | false =>
        rw [hb] at hB HF
        clear hb
        rw [if_neg (by decide)]
        go_enter Tryz.func77, Tryz.ntmps77
        go_wp2_with fail
        refine (HP.out _).mono ?_
        rintro e w1 ⟨rfl, hd⟩
        have HB1 := Lib.hid hd.below
        clear hd
        go_wp2_with fail
        with_reducible refine (hC.out _ (HL.out.go HB1.out)).mono ?_
        rintro e w2 ⟨rfl, hb2⟩
        have HB2 := Lib.hid (HB1.out.trans (hb2.mono HB1.out.size))
        clear hb2
        go_wp2_with fail
        refine (hB.out _ HF.out).mono ?_
        rintro e w3 ⟨rfl, hb3⟩
        have HB3 := Lib.hid (HB2.out.trans (hb3.mono HB2.out.size))
        clear hb3
        go_wp2
        go_ret2
        exact ⟨rfl, HB3.out⟩
    · rw [if_neg h59] at hC ⊢
      generalize B t = V at *
      generalize B [] = V0 at *
      clear h59
      go_enter Tryz.func77, Tryz.ntmps77
      go_wp2_with fail
      refine (HP.out _).mono ?_
      rintro e w1 ⟨rfl, hd⟩
      have HB1 := Lib.hid hd.below
      clear hd
      go_wp2_with fail
      refine (hC.out _ (HL.out.go HB1.out)).mono ?_
      rintro e w2 ⟨rfl, hb2⟩
      have HB2 := Lib.hid (HB1.out.trans (hb2.mono HB1.out.size))
      clear hb2
      go_wp2
      go_ret2
      exact ⟨rfl, HB2.out⟩
  · rw [decide_eq_false h38] at HP
    have hrd : rdE s = (⟨#[]⟩, 0) := by
      cases s with
      | nil => rfl
      | cons x t => rw [rdE, if_neg (fun e => h38 (by rw [e]; rfl))]
    rw [hrd]
    clear hrd h38
    go_enter Tryz.func77, Tryz.ntmps77
    go_wp2_with fail
    refine (HP.out _).mono ?_
    rintro e w1 ⟨rfl, hd⟩
    have HB1 := Lib.hid hd.below
    clear hd
    go_wp2
    go_ret2
    exact ⟨rfl, HB1.out⟩
end Go.Proofs.YtekifcbokdidlaaGreatDoor.PA

namespace Go.Proofs.YtekifcbokdidlaaGreatDoor.Pl
open Go.RowKit Go.Proofs.YtekifcbokdidlaaGreatDoorW.PrintWords

/-! #### HTML -/
/-- A byte as it stands in HTML. -/
def esc (x : UInt8) : List UInt8 := if x = 38 then [38, 97, 109, 112, 59] else if x = 60 then [38, 108, 116, 59] else if x = 62 then [38, 103, 116, 59] else if x = 34 then [38, 113, 117, 111, 116, 59] else [x]
/-- A text as it stands in HTML. -/
def htm (l : List UInt8) : List UInt8 := l.flatMap esc
/-! #### an address -/
end Go.Proofs.YtekifcbokdidlaaGreatDoor.Pl

namespace Go.Proofs.YtekifcbokdidlaaGreatDoor.PA
open Go.RowKit Go.Proofs.YtekifcbokdidlaaGreatDoor.Pl Go.Proofs.YtekifcbokdidlaaGreatDoorW.PrintWords Go.Proofs.YtekifcbokdidlaaGreatDoorW.PrintLast Go.Proofs.YtekifcbokdidlaaGreatDoorW.PrintMore
set_option linter.unusedVariables false

/-- The spans of signs. -/
def spn : List (Nat × Nat) := [(33, 47), (58, 64), (91, 96), (123, 126), (161, 169), (171, 172), (174, 177), (180, 180), (182, 184), (187, 187), (191, 191), (215, 215), (247, 247), (8208, 8231), (8240, 8286), (8352, 8384), (12289, 12291), (12296, 12319), (65281, 65295)]
def inS (r : Int) (e : Nat × Nat) : Bool := decide ((e.1 : Int) ≤ r) && decide (r ≤ (e.2 : Int))
def punct (r : Int) : Bool := spn.any (inS r)
set_option maxHeartbeats 1000000 in
theorem has_any (lo hi r : Int) (w : World) : Calls Tryz.prog 112 #[.agg #[.int .i32 lo, .int .i32 hi], .int .i32 r] w fun e w' => e = .returned (.bool (decide (lo ≤ r) && decide (r ≤ hi))) ∧ Below w.heap.size w w' := by
  by_cases h1 : lo ≤ r
  · by_cases h2 : r ≤ hi
    · rw [decide_eq_true h1, decide_eq_true h2]
      go_enter Tryz.func112, Tryz.ntmps112
      go_wp2
      go_ret
      exact ⟨rfl, (Below.refl _ _).alloc (Nat.le_refl _) _⟩
    · rw [decide_eq_true h1, decide_eq_false h2]
      have q := decide_eq_false h2
      go_enter Tryz.func112, Tryz.ntmps112
      go_wp2
      go_ret
      exact ⟨rfl, (Below.refl _ _).alloc (Nat.le_refl _) _⟩
  · rw [decide_eq_false h1]
    have q := decide_eq_false h1
    go_enter Tryz.func112, Tryz.ntmps112
    go_wp2
    go_ret
    exact ⟨rfl, (Below.refl _ _).alloc (Nat.le_refl _) _⟩
def spCells : Array Value := #[Value.int .i32 33, Value.int .i32 47, Value.int .i32 58, Value.int .i32 64, Value.int .i32 91, Value.int .i32 96, Value.int .i32 123, Value.int .i32 126, Value.int .i32 161, Value.int .i32 169, Value.int .i32 171, Value.int .i32 172, Value.int .i32 174, Value.int .i32 177, Value.int .i32 180, Value.int .i32 180, Value.int .i32 182, Value.int .i32 184, Value.int .i32 187, Value.int .i32 187, Value.int .i32 191, Value.int .i32 191, Value.int .i32 215, Value.int .i32 215, Value.int .i32 247, Value.int .i32 247, Value.int .i32 8208, Value.int .i32 8231, Value.int .i32 8240, Value.int .i32 8286, Value.int .i32 8352, Value.int .i32 8384, Value.int .i32 12289, Value.int .i32 12291, Value.int .i32 12296, Value.int .i32 12319, Value.int .i32 65281, Value.int .i32 65295]
theorem spDesc : Tryz.prog.underlying 120 = some (.array 19 119) := by kernel_rfl
theorem spSize : Tryz.prog.cellsOf 119 = 2 := by kernel_rfl
theorem spInfo : ∃ i, Tryz.prog.info? 119 = some i := by
  cases h : Tryz.prog.info? 119 with
  | none => exact absurd (show (Tryz.prog.info? 119).isSome = true by kernel_rfl) (by rw [h]; decide)
  | some i => exact ⟨i, rfl⟩
theorem sp_cut : ∀ k : Nat, k < 19 → spCells.extract (k * 2) (k * 2 + 2) = #[.int .i32 ((spn.getD k (0, 0)).1 : Int), .int .i32 ((spn.getD k (0, 0)).2 : Int)] := by
  intro k hk
  have : k = 0 ∨ k = 1 ∨ k = 2 ∨ k = 3 ∨ k = 4 ∨ k = 5 ∨ k = 6 ∨ k = 7 ∨ k = 8 ∨ k = 9 ∨ k = 10 ∨ k = 11 ∨ k = 12 ∨ k = 13 ∨ k = 14 ∨ k = 15 ∨ k = 16 ∨ k = 17 ∨ k = 18 := by omega
  rcases this with rfl | rfl | rfl | rfl | rfl | rfl | rfl | rfl | rfl | rfl | rfl | rfl | rfl | rfl | rfl | rfl | rfl | rfl | rfl <;> rfl
theorem sp_index (k : Nat) (hk : k < 19) (w : World) : (Instr.index 120 (.agg spCells) (.int .i64 k)).run Tryz.prog w = .ok (.agg #[.int .i32 ((spn.getD k (0, 0)).1 : Int), .int .i32 ((spn.getD k (0, 0)).2 : Int)]) w := by
  obtain ⟨i, hi⟩ := spInfo
  have h3 := sp_cut k hk
  generalize hE : spCells = E at h3 ⊢
  clear hE
  simp [Instr.index, asIntOf, run_underlying spDesc, hk, part, run_sizeOf w hi, spSize, h3, go_sem]
theorem any_snoc (r : Int) (k : Nat) (hk : k < spn.length) : (spn.take (k + 1)).any (inS r) = ((spn.take k).any (inS r) || inS r (spn.getD k (0, 0))) := by
  rw [List.take_succ_eq_append_getElem hk, List.any_append, List.getD_eq_getElem?_getD, List.getElem?_eq_getElem hk]
  simp
set_option maxHeartbeats 4000000 in
set_option maxRecDepth 100000 in
theorem punct_walk (r : Int) (w : World) : Calls Tryz.prog 96 #[.int .i32 r] w fun e w' => e = .returned (.bool (punct r)) ∧ Below w.heap.size w w' := by
  obtain ⟨R, hR⟩ : ∃ R, punct r = R := ⟨_, rfl⟩
  rw [hR]
  have HR := Lib.hid hR
  clear hR
  go_enter Tryz.func96, Tryz.ntmps96
  go_wp2
  go_loopw [25] (fun vi wr => ∃ k : Nat, vi = .int .i64 k ∧ k ≤ 19 ∧ Hid ((spn.take k).any (inS r) = false) ∧ Hid (Below w.heap.size w wr))
    (fun vi _ => 19 - (intOf vi).toNat)
  case atStart => exact ⟨0, rfl, by omega, rfl, Below.refl _ _⟩
  case round =>
    obtain ⟨k, rfl, hk, HP, HB⟩ := hrel
    by_cases hlt : k < 19
    · have hix := fun w => sp_index k hlt w
      simp only [spCells] at hix
      have hsn := any_snoc r k hlt
      rw [HP.out, Bool.false_or] at hsn
      have hmem : inS r (spn.getD k (0, 0)) = true → punct r = true := by
        intro h
        unfold punct
        rw [List.any_eq_true]
        refine ⟨spn.getD k (0, 0), ?_, h⟩
        rw [List.getD_eq_getElem?_getD, List.getElem?_eq_getElem (show k < spn.length from hlt)]
        exact List.getElem_mem _
      have hin : inS r (spn.getD k (0, 0)) = (decide (((spn.getD k (0, 0)).1 : Int) ≤ r) && decide (r ≤ ((spn.getD k (0, 0)).2 : Int))) := rfl
      generalize spn.getD k (0, 0) = e at hix hsn hmem hin
      have hsz := HB.out.size
      have HM := Lib.hid hmem
      have HS := Lib.hid hsn
      have HI := Lib.hid hin
      clear hmem hsn hin HP
      go_wp2_with fail
      refine (has_any _ _ _ _).mono ?_
      rintro e2 w2 ⟨rfl, hb2⟩
      have HB2 := Lib.hid ((HB.out.alloc hsz _).trans (hb2.mono (by have := hsz; simp; omega)))
      clear hb2 HB
      rw [← HI.out]
      cases hb : inS r e with
      | true =>
        have HT := Lib.hid (HM.out hb)
        clear HM HS HI hb hix
        go_wp2
        go_ret
        exact ⟨congrArg (fun z => Ending.returned (.bool z)) (HT.out.symm.trans HR.out), HB2.out⟩
      | false =>
        have HF := Lib.hid (HS.out.trans hb)
        clear HM HS HI hb hix
        go_wp2
        go_roundw
        case rel => exact ⟨k + 1, by first | rfl | simp, by omega, HF, HB2⟩
        case measure => simp [intOf]; omega
    · obtain rfl : k = 19 := by omega
      have HT := Lib.hid (show punct r = false from HP.out)
      go_wp2
      go_ret
      exact ⟨congrArg (fun z => Ending.returned (.bool z)) (HT.out.symm.trans HR.out), HB.out⟩
end Go.Proofs.YtekifcbokdidlaaGreatDoor.PA

namespace Go.Proofs.YtekifcbokdidlaaGreatDoor.Pl
open Go.RowKit Go.Proofs.YtekifcbokdidlaaGreatDoorW.PrintWords Go.Proofs.YtekifcbokdidlaaGreatDoor.PA Go.Proofs.YtekifcbokdidlaaGreatDoor.Pure

/-! #### without backslashes and references -/
/-- Is a byte a sign? -/
def sgn (x : UInt8) : Bool := decide (x.toNat < 128) && punct (x.toNat : Int)
/-- What a text begins with, without backslash and reference, and how long it is in the text. -/
def stp : List UInt8 → List UInt8 × Nat
  | [] => ([], 1)
  | x :: t => if x = 92 ∧ ∃ y ∈ t.head?, sgn y = true then (t.take 1, 2) else if 0 < (rdE (x :: t)).2 then ((rdE (x :: t)).1.data.toList, (rdE (x :: t)).2.toNat) else ([x], 1)
theorem stp_cons (x : UInt8) (t : List UInt8) : stp (x :: t) = if x = 92 ∧ ∃ y ∈ t.head?, sgn y = true then (t.take 1, 2) else if 0 < (rdE (x :: t)).2 then ((rdE (x :: t)).1.data.toList, (rdE (x :: t)).2.toNat) else ([x], 1) := rfl
def uneF : Nat → List UInt8 → List UInt8
  | 0, _ => []
  | _ + 1, [] => []
  | n + 1, x :: t => (stp (x :: t)).1 ++ uneF n ((x :: t).drop (stp (x :: t)).2)
/-- A text without backslashes and references. -/
def une (l : List UInt8) : List UInt8 := uneF l.length l
theorem stp_pos (l : List UInt8) : 1 ≤ (stp l).2 := by
  cases l with
  | nil => exact Nat.le_refl _
  | cons x t =>
    rw [stp_cons]
    split
    · exact Nat.le_succ 1
    · split
      · show 1 ≤ (rdE (x :: t)).2.toNat
        omega
      · exact Nat.le_refl _
theorem stp_le (x : UInt8) (t : List UInt8) : (stp (x :: t)).2 ≤ (x :: t).length := by
  rw [stp_cons]
  split
  · rename_i h
    obtain ⟨_, y, hy, _⟩ := h
    cases t with
    | nil => cases hy
    | cons z u => simp
  · split
    · rcases rdE_cases (x :: t) with h | ⟨d, u, he, _, _, hr⟩
      · rename_i h0
        rw [h] at h0
        exact absurd h0 (by decide)
      · rw [hr, he]
        simp only [List.length_cons, List.length_append]
        omega
    · simp
theorem uneF_le : ∀ (n m : Nat) (l : List UInt8), l.length ≤ n → l.length ≤ m → uneF n l = uneF m l
  | n, m, [], _, _ => by cases n <;> cases m <;> rfl
  | 0, m, x :: t, h, _ => by simp at h
  | n + 1, 0, x :: t, _, h => by simp at h
  | n + 1, m + 1, x :: t, h1, h2 => by
    rw [uneF, uneF]
    congr 1
    have := stp_pos (x :: t)
    rw [List.length_cons] at h1 h2
    exact uneF_le n m _ (by rw [List.length_drop, List.length_cons]; omega) (by rw [List.length_drop, List.length_cons]; omega)
theorem une_cons (x : UInt8) (t : List UInt8) : une (x :: t) = (stp (x :: t)).1 ++ une ((x :: t).drop (stp (x :: t)).2) := by
  have := stp_pos (x :: t)
  unfold une
  rw [List.length_cons, uneF]
  congr 1
  exact uneF_le _ _ _ (by rw [List.length_drop, List.length_cons]; omega) (Nat.le_refl _)
theorem stp_sgn (y : UInt8) (u : List UInt8) (h : sgn y = true) : stp (92 :: y :: u) = ([y], 2) := by
  rw [stp_cons]
  rw [if_pos ⟨rfl, y, rfl, h⟩]
  rfl
theorem rdE_ne (x : UInt8) (t : List UInt8) (h : x ≠ 38) : rdE (x :: t) = (⟨#[]⟩, 0) := by rw [rdE, if_neg h]
theorem stp_one (x : UInt8) (t : List UInt8) (h1 : x = 92 → ∀ y u, t = y :: u → sgn y = false) (h2 : ¬ 0 < (rdE (x :: t)).2) : stp (x :: t) = ([x], 1) := by
  rw [stp_cons]
  rw [if_neg, if_neg h2]
  rintro ⟨e, y, hy, hs⟩
  cases t with
  | nil => cases hy
  | cons z u =>
    obtain rfl := Option.some.inj hy
    rw [h1 e z u rfl] at hs
    cases hs
theorem stp_plain (x : UInt8) (t : List UInt8) (h1 : x ≠ 92) (h2 : x ≠ 38) : stp (x :: t) = ([x], 1) :=
  stp_one x t (fun e => absurd e h1) (by rw [rdE_ne x t h2]; decide)
/-! #### there and back -/
end Go.Proofs.YtekifcbokdidlaaGreatDoor.Pl

namespace Go.Proofs.YtekifcbokdidlaaGreatDoor.PA
open Go.RowKit Go.Proofs.YtekifcbokdidlaaGreatDoor.Pl Go.Proofs.YtekifcbokdidlaaGreatDoorW.PrintWords Go.Proofs.YtekifcbokdidlaaGreatDoorW.PrintLast Go.Proofs.YtekifcbokdidlaaGreatDoorW.PrintMore Go.Proofs.YtekifcbokdidlaaGreatDoor.Pure
set_option linter.unusedVariables false

theorem enc_le (n : Int) : (Go.Utf8.encode n).size ≤ 4 := encode_size_le n
theorem emp_le : (⟨#[]⟩ : ByteArray).size ≤ 4 := by decide
theorem wr_str (acc : List UInt8) (S : ByteArray) : Lib.byteCells acc ++ Lib.strCells S = Lib.byteCells (acc ++ S.data.toList) := by rw [Lib.byteCells_append]; rfl
theorem nmd_le (t : List UInt8) : (nmd t).1.size ≤ 4 := by
  rcases nmd_cases t with ⟨k, hk, rfl⟩ | hn
  · rw [nmd_hit k hk]
    generalize enn k = n
    exact enc_le n
  · rw [nmd_miss t hn]
    exact emp_le
theorem chr_le (b most : Nat) (ok : UInt8 → Bool) (t : List UInt8) : (chr b most ok t).1.size ≤ 4 := by
  unfold chr
  split
  · exact emp_le
  · generalize fixr (num b t) = n
    exact enc_le n
theorem bdy_le (t : List UInt8) : (bdy t).1.size ≤ 4 := by
  cases t with
  | nil => exact nmd_le []
  | cons x d =>
    by_cases hx : x = 35
    · subst hx
      cases d with
      | nil => rw [bdy_35]; exact chr_le _ _ _ _
      | cons y d =>
        rw [bdy_two]
        split
        · exact chr_le _ _ _ _
        · exact chr_le _ _ _ _
    · rw [bdy_no x d hx]
      exact nmd_le _
theorem stp_len (l : List UInt8) : (stp l).1.length ≤ 4 * (stp l).2 := by
  cases l with
  | nil => exact Nat.zero_le _
  | cons x t =>
    rw [stp_cons]
    split
    · show (t.take 1).length ≤ _
      rw [List.length_take]
      omega
    · split
      · rename_i h0
        rcases rdE_cases (x :: t) with h | ⟨d, u, he, _, _, hr⟩
        · rw [h] at h0
          exact absurd h0 (by decide)
        · have h4 := bdy_le d
          rw [hr]
          show (bdy d).1.data.toList.length ≤ 4 * ((d.length : Int) + 2).toNat
          rw [Array.length_toList]
          have : (bdy d).1.data.size ≤ 4 := h4
          omega
      · show 1 ≤ 4 * 1
        decide
theorem step_to (s acc p : List UInt8) (x : UInt8) (t : List UInt8) (n : Nat) (h : stp (x :: t) = (p, n)) (hl : (x :: t).length ≤ s.length) (hs : acc.length + 4 * (x :: t).length ≤ 4 * s.length) (he : acc ++ une (x :: t) = une s) :
    ((x :: t).drop n).length ≤ s.length ∧ (acc ++ p).length + 4 * ((x :: t).drop n).length ≤ 4 * s.length ∧ (acc ++ p) ++ une ((x :: t).drop n) = une s ∧ ((x :: t).drop n).length < (x :: t).length := by
  have h1 := stp_len (x :: t)
  have h2 := stp_pos (x :: t)
  have h3 := stp_le x t
  have h4 := une_cons x t
  rw [h] at h1 h2 h3 h4
  simp only at h1 h2 h3 h4
  rw [List.length_append, List.length_drop]
  refine ⟨by omega, by omega, ?_, by omega⟩
  rw [List.append_assoc, ← h4]
  exact he
set_option maxHeartbeats 1000000 in
theorem sign_any (x : UInt8) (w : World) : Calls Tryz.prog 72 #[.int .u8 (x.toNat : Int)] w fun e w' => e = .returned (.bool (sgn x)) ∧ Below w.heap.size w w' := by
  have hp := punct_walk (x.toNat : Int)
  by_cases h : x.toNat < 128
  · have hs : sgn x = punct (x.toNat : Int) := by unfold sgn; rw [decide_eq_true h, Bool.true_and]
    rw [← hs] at hp
    have q : decide ((x.toNat : Int) < 128) = true := decide_eq_true (by omega)
    have HP := Lib.hid hp
    clear hp hs
    go_enter Tryz.func72, Tryz.ntmps72
    go_wp2_with (first | (go_at_call 96; refine (HP.out _).mono ?_; rintro e w' ⟨rfl, hb⟩; have HB := Lib.hid hb; clear hb))
    go_ret
    exact ⟨rfl, HB.out⟩
  · have hs : sgn x = false := by unfold sgn; rw [decide_eq_false h, Bool.false_and]
    rw [hs]
    have q : decide ((x.toNat : Int) < 128) = false := decide_eq_false (by omega)
    clear hp hs
    go_enter Tryz.func72, Tryz.ntmps72
    go_wp2
    go_ret
    exact ⟨rfl, Below.refl _ _⟩
theorem isB_belowU {T e B b : Nat} {bs : List Value} {w w' : World} (h : Lib.IsBuilder T e B b bs w) (hb : Below w.heap.size w w') : Lib.IsBuilder T e B b bs w' := by
  have go : ∀ p, Lib.BuilderAt T e B b p bs w → Lib.BuilderAt T e B b p bs w' := by
    intro p h
    have hlt := h.lt
    obtain ⟨h1, v, h2, h3, h4⟩ := h
    exact ⟨h1, v, (hb.block _ hlt).trans h2, pw_own_below h3 hb, h4⟩
  rcases h with h | h
  · exact .inl (go _ h)
  · exact .inr (go _ h)
set_option maxHeartbeats 8000000 in
set_option maxRecDepth 100000 in
theorem unesc_walk (s : List UInt8) (hs : s.length ≤ 1048576) (w : World) (hLd : Laid w) :
    Calls Tryz.prog 52 #[.string (B s)] w fun e w' => e = .returned (.string (B (une s))) ∧ Below w.heap.size w w' := by
  have HL := Lib.hid hLd
  clear hLd
  go_enter Tryz.func52, Tryz.ntmps52
  go_wp2
  go_loopw [0] (fun v0 wr => ∃ l acc : List UInt8, v0 = .string (B l) ∧ l.length ≤ s.length ∧ Hid (acc.length + 4 * l.length ≤ 4 * s.length) ∧ Hid (acc ++ une l = une s) ∧ Hid (Lib.IsBuilder 72 5 w.heap.size w.heap.size (Lib.byteCells acc) wr) ∧ Hid (Below w.heap.size w wr)) (fun v0 _ => match v0 with | .string x => x.size | _ => 0)
  case atStart => exact ⟨s, [], rfl, Nat.le_refl _, Lib.hid (by simp), Lib.hid rfl, Lib.hid (Lib.fresh_isBuilder _ _ w), Lib.hid ((Below.refl _ w).alloc (Nat.le_refl _) _)⟩
  case round =>
    obtain ⟨l, acc, rfl, hl, HS, HE, HI, HB⟩ := hrel
    cases l with
    | nil =>
      have hE : acc = une s := (List.append_nil acc).symm.trans HE.out
      have hne : (B []).toList = [] := B_toList []
      have hI := HI.out
      rw [hE] at hI
      have HI2 := Lib.hid hI
      have hbs := HB.out.size
      clear hI hE
      go_wp2_with (go_at_call 64; refine (Tryz.Builder_String_any w.heap.size w.heap.size (une s) _ HI2.out hbs).mono ?_; rintro e w1 ⟨rfl, hb1⟩)
      repeat (first | refine ex_noGoto_ret ?_ | refine ex_block_ret ?_ | refine ex_then_ret ?_)
      go_ret
      exact ⟨rfl, HB.out.trans hb1⟩
    | cons x t =>
      have hne : (B (x :: t)).toList.isEmpty = false := by rw [B_toList]; rfl
      have hne2 : (B (x :: t)).toList = x :: t := B_toList _
      have hsz : (B (x :: t)).size = t.length + 1 := B_size _
      have hz : 0 < (B (x :: t)).size := by omega
      have hi0 : (B (x :: t))[0]'hz = x := rfl
      have h01 : (B (x :: t)).extract 0 1 = B [x] := by rw [B_to]; rfl
      have h1n : (B (x :: t)).extract 1 (t.length + 1) = B t := B_from (x :: t) 1 _ rfl
      have hbs := HB.out.size
      by_cases h92 : x = 92
      · have q92 : ((x.toNat : Int) == 92) = true := by rw [h92]; rfl
        have q38 : ((x.toNat : Int) == 38) = false := by rw [h92]; rfl
        have hrd : ¬ 0 < (rdE (x :: t)).2 := by rw [rdE_ne x t (by rw [h92]; decide)]; decide
        cases t with
        | nil =>
          have hst : stp (x :: []) = ([x], 1) := stp_one x [] (fun _ y u e => by cases e) hrd
          clear hrd h92
          have hp4 : (B [x]).size ≤ 4 := by rw [B_size]; simp
          have hpd : (B [x]).data.toList = [x] := B_data _
          have HB1 := HB
          have HI1 := HI
          have hbs1 := hbs
          have HF := Lib.hid (step_to s acc [x] x ([]) 1 hst hl HS.out HE.out)
          have hS4 := Lib.hid (show acc.length + (B [x]).size ≤ 140737488355328 by have := HS.out; have := hp4; omega)
          have HSd := Lib.hid (show (B [x]).data.toList = [x] from hpd)
          clear hst hl HS HE hp4 hpd
          go_wp2_with fail
          with_reducible refine (Tryz.Builder_WriteString w.heap.size w.heap.size _ (B [x]) _ HI1.out (by rw [Lib.byteCells_length]; exact hS4.out) hbs1).mono ?_
          rintro e w2 ⟨rfl, h2, b2⟩
          rw [wr_str, HSd.out] at h2
          have HI2 := Lib.hid h2
          have HB2 := Lib.hid (HB1.out.trans b2)
          clear h2 b2
          go_wp2
          go_roundw
          case rel => exact ⟨_, _, rfl, HF.out.1, Lib.hid HF.out.2.1, Lib.hid HF.out.2.2.1, Lib.hid (.inr HI2.out), HB2⟩
          case measure =>
            change (B ((x :: []).drop 1)).size < (B (x :: [])).size
            rw [B_size, B_size]
            exact HF.out.2.2.2
        | cons y u =>
          have hz2 : 1 < (B (x :: y :: u)).size := by rw [B_size]; simp
          have hi1 : (B (x :: y :: u))[1]'hz2 = y := rfl
          have h12 : (B (x :: y :: u)).extract 1 2 = B [y] := by rw [B_extract]; rfl
          have hz3 : 2 ≤ (B (x :: y :: u)).size := hz2
          have hz4 : 2 ≤ u.length + 1 + 1 := by omega
          have hz5 : (2 : Int) ≤ ((B (x :: y :: u)).size : Int) := by omega
          have hz6 : (2 : Int) ≤ (u.length : Int) + 1 + 1 := by omega
          have h2n : (B (x :: y :: u)).extract 2 (u.length + 1 + 1) = B u := B_from (x :: y :: u) 2 _ rfl
          have hgt : decide ((1 : Int) < (((y :: u).length : Nat) : Int) + 1) = true := decide_eq_true (by rw [List.length_cons]; omega)
          have HG := Lib.hid (sign_any y)
          simp only [List.length_cons] at hgt hsz h1n
          cases hsg : sgn y with
          | true =>
            rw [hsg] at HG
            have hst : stp (x :: y :: u) = ([y], 2) := by rw [h92]; exact stp_sgn y u hsg
            clear hrd h92 hsg
            have hp4 : (B [y]).size ≤ 4 := by rw [B_size]; simp
            have hpd : (B [y]).data.toList = [y] := B_data _
            go_wp2_with fail
            refine (HG.out _).mono ?_
            rintro e w1 ⟨rfl, hb1⟩
            have HB1 := Lib.hid (HB.out.trans (hb1.mono hbs))
            have HI1 := Lib.hid (isB_belowU HI.out hb1)
            have hbs1 := HB1.out.size
            clear hb1
            have HF := Lib.hid (step_to s acc [y] x (y :: u) 2 hst hl HS.out HE.out)
            have hS4 := Lib.hid (show acc.length + (B [y]).size ≤ 140737488355328 by have := HS.out; have := hp4; omega)
            have HSd := Lib.hid (show (B [y]).data.toList = [y] from hpd)
            clear hst hl HS HE hp4 hpd
            go_wp2_with fail
            with_reducible refine (Tryz.Builder_WriteString w.heap.size w.heap.size _ (B [y]) _ HI1.out (by rw [Lib.byteCells_length]; exact hS4.out) hbs1).mono ?_
            rintro e w2 ⟨rfl, h2, b2⟩
            rw [wr_str, HSd.out] at h2
            have HI2 := Lib.hid h2
            have HB2 := Lib.hid (HB1.out.trans b2)
            clear h2 b2
            go_wp2
            go_roundw
            case rel => exact ⟨_, _, rfl, HF.out.1, Lib.hid HF.out.2.1, Lib.hid HF.out.2.2.1, Lib.hid (.inr HI2.out), HB2⟩
            case measure =>
              change (B ((x :: y :: u).drop 2)).size < (B (x :: y :: u)).size
              rw [B_size, B_size]
              exact HF.out.2.2.2
          | false =>
            rw [hsg] at HG
            have hst : stp (x :: y :: u) = ([x], 1) := stp_one x (y :: u) (fun _ y' u' e => by cases e; exact hsg) hrd
            clear hrd h92 hsg
            have hp4 : (B [x]).size ≤ 4 := by rw [B_size]; simp
            have hpd : (B [x]).data.toList = [x] := B_data _
            go_wp2_with fail
            refine (HG.out _).mono ?_
            rintro e w1 ⟨rfl, hb1⟩
            have HB1 := Lib.hid (HB.out.trans (hb1.mono hbs))
            have HI1 := Lib.hid (isB_belowU HI.out hb1)
            have hbs1 := HB1.out.size
            clear hb1
            have HF := Lib.hid (step_to s acc [x] x (y :: u) 1 hst hl HS.out HE.out)
            have hS4 := Lib.hid (show acc.length + (B [x]).size ≤ 140737488355328 by have := HS.out; have := hp4; omega)
            have HSd := Lib.hid (show (B [x]).data.toList = [x] from hpd)
            clear hst hl HS HE hp4 hpd
            go_wp2_with fail
            with_reducible refine (Tryz.Builder_WriteString w.heap.size w.heap.size _ (B [x]) _ HI1.out (by rw [Lib.byteCells_length]; exact hS4.out) hbs1).mono ?_
            rintro e w2 ⟨rfl, h2, b2⟩
            rw [wr_str, HSd.out] at h2
            have HI2 := Lib.hid h2
            have HB2 := Lib.hid (HB1.out.trans b2)
            clear h2 b2
            go_wp2
            go_roundw
            case rel => exact ⟨_, _, rfl, HF.out.1, Lib.hid HF.out.2.1, Lib.hid HF.out.2.2.1, Lib.hid (.inr HI2.out), HB2⟩
            case measure =>
              change (B ((x :: y :: u).drop 1)).size < (B (x :: y :: u)).size
              rw [B_size, B_size]
              exact HF.out.2.2.2
      · have q92 : ((x.toNat : Int) == 92) = false := beq_eq_false_iff_ne.2 (fun e => h92 ((u8_eq x 92 (by decide)).1 e))
        by_cases h38 : x = 38
        · have q38 : ((x.toNat : Int) == 38) = true := by rw [h38]; rfl
          have HRd := Lib.hid (fun W hW => read_walk (x :: t) (by rw [List.length_cons] at hl ⊢; omega) W hW)
          by_cases hk : 0 < (rdE (x :: t)).2
          · have hst0 : stp (x :: t) = ((rdE (x :: t)).1.data.toList, (rdE (x :: t)).2.toNat) := by rw [stp_cons, if_neg (fun e => h92 e.1), if_pos hk]
            obtain ⟨kn, hkn⟩ := Int.eq_ofNat_of_zero_le (show 0 ≤ (rdE (x :: t)).2 by omega)
            have hle := stp_le x t
            have hl4 := stp_len (x :: t)
            obtain ⟨Q, hQ⟩ : ∃ Q, (rdE (x :: t)).1 = Q := ⟨_, rfl⟩
            rw [hst0] at hle hl4
            simp only [hkn, hQ, Int.toNat_natCast] at hle hl4
            rw [hkn, hQ] at HRd
            have hst : stp (x :: t) = (Q.data.toList, kn) := by rw [hst0, hkn, hQ, Int.toNat_natCast]
            have qk : decide (0 < (kn : Int)) = true := decide_eq_true (by omega)
            have qk2 : 0 < kn := by omega
            have qk3 : (0 : Int) < (kn : Int) := by omega
            have hp4 : Q.size ≤ 4 * s.length := by
              have e : Q.data.toList.length = Q.size := Array.length_toList
              omega
            have hpd : Q.data.toList = Q.data.toList := rfl
            have hkn2 : kn ≤ t.length + 1 := by rw [List.length_cons] at hle; exact hle
            have hkn3 : kn ≤ (B (x :: t)).size := by rw [hsz]; exact hkn2
            have hkx : (B (x :: t)).extract kn (t.length + 1) = B ((x :: t).drop kn) := B_from (x :: t) kn _ rfl
            clear hst0 hkn hQ hle hl4 hk h92 h38
            go_wp2_with fail
            refine (HRd.out _ (HL.out.go HB.out)).mono ?_
            rintro e w1 ⟨rfl, hb1⟩
            have HB1 := Lib.hid (HB.out.trans (hb1.mono hbs))
            have HI1 := Lib.hid (isB_belowU HI.out hb1)
            have hbs1 := HB1.out.size
            clear hb1
            have HF := Lib.hid (step_to s acc Q.data.toList x (t) kn hst hl HS.out HE.out)
            have hS4 := Lib.hid (show acc.length + Q.size ≤ 140737488355328 by have := HS.out; have := hp4; omega)
            have HSd := Lib.hid (show (Q).data.toList = Q.data.toList from rfl)
            clear hst hl HS HE hp4
            go_wp2_with fail
            with_reducible refine (Tryz.Builder_WriteString w.heap.size w.heap.size _ (Q) _ HI1.out (by rw [Lib.byteCells_length]; exact hS4.out) hbs1).mono ?_
            rintro e w2 ⟨rfl, h2, b2⟩
            rw [wr_str] at h2
            have HI2 := Lib.hid h2
            have HB2 := Lib.hid (HB1.out.trans b2)
            clear h2 b2
            go_wp2
            go_roundw
            case rel => exact ⟨_, _, rfl, HF.out.1, Lib.hid HF.out.2.1, Lib.hid HF.out.2.2.1, Lib.hid (.inr HI2.out), HB2⟩
            case measure =>
              change (B ((x :: t).drop kn)).size < (B (x :: t)).size
              rw [B_size, B_size]
              exact HF.out.2.2.2
          · have hst : stp (x :: t) = ([x], 1) := stp_one x t (fun e => absurd e h92) hk
            have hr0 : rdE (x :: t) = (⟨#[]⟩, 0) := by
              rcases rdE_cases (x :: t) with h | ⟨d, u, he, _, _, hr⟩
              · exact h
              · rw [hr] at hk
                exact absurd (show (0 : Int) < (d.length : Int) + 2 by omega) hk
            rw [hr0] at HRd
            clear hr0 hk h92 h38
            have hp4 : (B [x]).size ≤ 4 := by rw [B_size]; simp
            have hpd : (B [x]).data.toList = [x] := B_data _
            go_wp2_with fail
            refine (HRd.out _ (HL.out.go HB.out)).mono ?_
            rintro e w1 ⟨rfl, hb1⟩
            have HB1 := Lib.hid (HB.out.trans (hb1.mono hbs))
            have HI1 := Lib.hid (isB_belowU HI.out hb1)
            have hbs1 := HB1.out.size
            clear hb1
            have HF := Lib.hid (step_to s acc [x] x (t) 1 hst hl HS.out HE.out)
            have hS4 := Lib.hid (show acc.length + (B [x]).size ≤ 140737488355328 by have := HS.out; have := hp4; omega)
            have HSd := Lib.hid (show (B [x]).data.toList = [x] from hpd)
            clear hst hl HS HE hp4 hpd
            go_wp2_with fail
            with_reducible refine (Tryz.Builder_WriteString w.heap.size w.heap.size _ (B [x]) _ HI1.out (by rw [Lib.byteCells_length]; exact hS4.out) hbs1).mono ?_
            rintro e w2 ⟨rfl, h2, b2⟩
            rw [wr_str, HSd.out] at h2
            have HI2 := Lib.hid h2
            have HB2 := Lib.hid (HB1.out.trans b2)
            clear h2 b2
            go_wp2
            go_roundw
            case rel => exact ⟨_, _, rfl, HF.out.1, Lib.hid HF.out.2.1, Lib.hid HF.out.2.2.1, Lib.hid (.inr HI2.out), HB2⟩
            case measure =>
              change (B ((x :: t).drop 1)).size < (B (x :: t)).size
              rw [B_size, B_size]
              exact HF.out.2.2.2
        · have q38 : ((x.toNat : Int) == 38) = false := beq_eq_false_iff_ne.2 (fun e => h38 ((u8_eq x 38 (by decide)).1 e))
          have hst : stp (x :: t) = ([x], 1) := stp_plain x t h92 h38
          clear h92 h38
          have hp4 : (B [x]).size ≤ 4 := by rw [B_size]; simp
          have hpd : (B [x]).data.toList = [x] := B_data _
          have HB1 := HB
          have HI1 := HI
          have hbs1 := hbs
          have HF := Lib.hid (step_to s acc [x] x (t) 1 hst hl HS.out HE.out)
          have hS4 := Lib.hid (show acc.length + (B [x]).size ≤ 140737488355328 by have := HS.out; have := hp4; omega)
          have HSd := Lib.hid (show (B [x]).data.toList = [x] from hpd)
          clear hst hl HS HE hp4 hpd
          go_wp2_with fail
          with_reducible refine (Tryz.Builder_WriteString w.heap.size w.heap.size _ (B [x]) _ HI1.out (by rw [Lib.byteCells_length]; exact hS4.out) hbs1).mono ?_
          rintro e w2 ⟨rfl, h2, b2⟩
          rw [wr_str, HSd.out] at h2
          have HI2 := Lib.hid h2
          have HB2 := Lib.hid (HB1.out.trans b2)
          clear h2 b2
          go_wp2
          go_roundw
          case rel => exact ⟨_, _, rfl, HF.out.1, Lib.hid HF.out.2.1, Lib.hid HF.out.2.2.1, Lib.hid (.inr HI2.out), HB2⟩
          case measure =>
            change (B ((x :: t).drop 1)).size < (B (x :: t)).size
            rw [B_size, B_size]
            exact HF.out.2.2.2
end Go.Proofs.YtekifcbokdidlaaGreatDoor.PA

namespace Go.Proofs.YtekifcbokdidlaaGreatDoor.PA
open Go.RowKit Go.Proofs.YtekifcbokdidlaaGreatDoor.Pl Go.Proofs.YtekifcbokdidlaaGreatDoor.Pure Go.Proofs.YtekifcbokdidlaaGreatDoorW.PrintWords Go.Proofs.YtekifcbokdidlaaGreatDoorW.PrintLast Go.Proofs.YtekifcbokdidlaaGreatDoorW.PrintMore
set_option linter.unusedVariables false

/-- How far the bytes go that are not told. -/
def eachL (p : UInt8 → Bool) : List UInt8 → Nat
  | [] => 0
  | [x] => if p x = true then 0 else 1
  | x :: y :: t => if x = 92 ∧ sgn y = true then eachL p t + 2 else if p x = true then 0 else eachL p (y :: t) + 1
theorem each_esc (p : UInt8 → Bool) (x y : UInt8) (t : List UInt8) (h : x = 92) (h2 : sgn y = true) : eachL p (x :: y :: t) = eachL p t + 2 := by rw [eachL, if_pos ⟨h, h2⟩]
theorem each_one (p : UInt8 → Bool) (x : UInt8) (t : List UInt8) (h : x = 92 → ∀ y u, t = y :: u → sgn y = false) : eachL p (x :: t) = if p x = true then 0 else eachL p t + 1 := by
  cases t with
  | nil => rfl
  | cons y u =>
    rw [eachL, if_neg]
    rintro ⟨h1, h2⟩
    rw [h h1 y u rfl] at h2
    cases h2
/-- The label's end. -/
def pLab (x : UInt8) : Bool := decide (x = 91) || decide (x = 93)
theorem lab1 (x : UInt8) (w : World) : Calls Tryz.prog 46 #[.int .u8 (x.toNat : Int)] w fun e w' => e = .returned (.bool (pLab x)) ∧ w = w' := by
  have e1 : ((x.toNat : Int) = 91) ↔ x = 91 := u8_eq _ 91 (by omega)
  have e2 : ((x.toNat : Int) = 93) ↔ x = 93 := u8_eq _ 93 (by omega)
  by_cases h1 : x = 91
  · have HD := Lib.hid (show pLab x = true by unfold pLab; rw [decide_eq_true h1]; rfl)
    have q : ((x.toNat : Int) == 91) = true := beq_iff_eq.2 (e1.2 h1)
    clear e1 e2 h1
    go_enter Tryz.func46, Tryz.ntmps46
    go_wp2
    go_ret
    exact ⟨congrArg (fun z => Ending.returned (.bool z)) HD.out.symm, rfl⟩
  · have q : ((x.toNat : Int) == 91) = false := beq_eq_false_iff_ne.2 (fun e => h1 (e1.1 e))
    by_cases h2 : x = 93
    · have HD := Lib.hid (show pLab x = true by unfold pLab; rw [decide_eq_true h2, Bool.or_true])
      have q2 : ((x.toNat : Int) == 93) = true := beq_iff_eq.2 (e2.2 h2)
      clear e1 e2 h1 h2
      go_enter Tryz.func46, Tryz.ntmps46
      go_wp2
      go_ret
      exact ⟨congrArg (fun z => Ending.returned (.bool z)) HD.out.symm, rfl⟩
    · have HD := Lib.hid (show pLab x = false by unfold pLab; rw [decide_eq_false h1, decide_eq_false h2]; rfl)
      have q2 : ((x.toNat : Int) == 93) = false := beq_eq_false_iff_ne.2 (fun e => h2 (e2.1 e))
      clear e1 e2 h1 h2
      go_enter Tryz.func46, Tryz.ntmps46
      go_wp2
      go_ret
      exact ⟨congrArg (fun z => Ending.returned (.bool z)) HD.out.symm, rfl⟩
theorem eachL_le (p : UInt8 → Bool) : ∀ l : List UInt8, eachL p l ≤ l.length
  | [] => Nat.le_refl _
  | [x] => by unfold eachL; split <;> simp
  | x :: y :: t => by
    have h1 := eachL_le p t
    have h2 := eachL_le p (y :: t)
    unfold eachL
    split
    · simp only [List.length_cons]; omega
    · split
      · exact Nat.zero_le _
      · simp only [List.length_cons] at h2 ⊢; omega
set_option maxHeartbeats 4000000 in
set_option maxRecDepth 100000 in
theorem each_lab (s : List UInt8) (hs : s.length ≤ 1099511627776) (f : Nat) (hf : f ≤ s.length) (w : World) : Calls Tryz.prog 45 #[.string (B s), .int .i64 f, .func (.func 46) #[] #[]] w fun e w' => e = .returned (.int .i64 ((f + eachL pLab (s.drop f) : Nat) : Int)) ∧ Below w.heap.size w w' := by
  have hsz : (B s).size = s.length := B_size s
  obtain ⟨R, hR⟩ : ∃ R, f + eachL pLab (s.drop f) = R := ⟨_, rfl⟩
  rw [hR]
  go_enter Tryz.func45, Tryz.ntmps45
  go_wp2
  go_loopw [7] (fun vi wr => ∃ k : Nat, vi = .int .i64 k ∧ k ≤ s.length ∧ Hid (k + eachL pLab (s.drop k) = R) ∧ Hid (Below w.heap.size w wr))
    (fun vi _ => s.length - (intOf vi).toNat)
  case atStart => exact ⟨f, rfl, hf, hR, Below.refl _ _⟩
  case round =>
    obtain ⟨k, rfl, hk, HA, HB⟩ := hrel
    by_cases hkn : k < s.length
    · have hks : k < (B s).size := by omega
      have hi : (B s)[k]'hks = s[k] := List.getElem_toArray hkn
      obtain ⟨x, hx⟩ : ∃ x, s[k] = x := ⟨_, rfl⟩
      have hdr : s.drop k = x :: s.drop (k + 1) := by rw [← hx]; exact List.drop_eq_getElem_cons hkn
      rw [hx] at hi
      have hA := HA.out
      rw [hdr] at hA
      have hsz2 := HB.out.size
      by_cases h92 : x = 92
      · have q : (((x.toNat : Nat) : Int) == 92) = true := by rw [h92]; rfl
        by_cases hk1 : k + 1 < s.length
        · have hks1 : k + 1 < (B s).size := by omega
          have hi1 : (B s)[k + 1]'hks1 = s[k + 1] := List.getElem_toArray hk1
          have q1 : decide ((k : Int) + 1 < (s.length : Int)) = true := decide_eq_true (by omega)
          obtain ⟨y, hy⟩ : ∃ y, s[k + 1] = y := ⟨_, rfl⟩
          have hdr2 : s.drop (k + 1) = y :: s.drop (k + 2) := by rw [← hy]; exact List.drop_eq_getElem_cons hk1
          rw [hy] at hi1
          rw [hdr2] at hA
          have HS := Lib.hid (sign_any y wr)
          cases hsg : sgn y with
          | true =>
            rw [each_esc pLab x y _ h92 hsg] at hA
            have HR := Lib.hid (show (k + 2) + eachL pLab (s.drop (k + 2)) = R by omega)
            clear hA hdr hdr2 h92 hx hy
            go_wp2_with fail
            refine HS.out.mono ?_
            rintro e w2 ⟨rfl, hb2⟩
            rw [hsg]
            have HB2 := Lib.hid (HB.out.trans (hb2.mono hsz2))
            clear hb2 HS hsg HB
            go_wp2
            go_roundw
            case rel => exact ⟨k + 2, by go_num, by omega, HR, HB2⟩
            case measure => simp [intOf]; omega
          | false =>
            rw [each_one pLab x _ (fun _ y' u e => by cases e; exact hsg), ← hdr2] at hA
            clear hdr hdr2 h92 hx hy
            go_wp2_with fail
            refine HS.out.mono ?_
            rintro e w2 ⟨rfl, hb2⟩
            rw [hsg]
            have HB2 := Lib.hid (HB.out.trans (hb2.mono hsz2))
            clear hb2 HS hsg HB
            go_wp2_with fail
            refine (lab1 x _).mono ?_
            rintro e w3 ⟨rfl, rfl⟩
            cases hp : pLab x with
            | true =>
              rw [hp, if_pos rfl] at hA
              have HR := Lib.hid hA
              clear hA hp
              go_wp2
              go_ret
              exact ⟨congrArg (fun z => Ending.returned (.int .i64 z)) (by have := HR.out; omega), HB2.out⟩
            | false =>
              rw [hp, if_neg (by decide)] at hA
              have HR := Lib.hid (show (k + 1) + eachL pLab (s.drop (k + 1)) = R by omega)
              clear hA hp
              go_wp2
              go_roundw
              case rel => exact ⟨k + 1, by go_num, by omega, HR, HB2⟩
              case measure => simp [intOf]; omega
        · have q1 : decide ((k : Int) + 1 < (s.length : Int)) = false := decide_eq_false (by omega)
          have hnil : s.drop (k + 1) = [] := List.drop_of_length_le (by omega)
          rw [each_one pLab x _ (fun _ y' u e => by rw [hnil] at e; cases e)] at hA
          clear hdr h92 hx hnil
          go_wp2_with fail
          refine (lab1 x _).mono ?_
          rintro e w3 ⟨rfl, rfl⟩
          cases hp : pLab x with
          | true =>
            rw [hp, if_pos rfl] at hA
            have HR := Lib.hid hA
            clear hA hp
            go_wp2
            go_ret
            exact ⟨congrArg (fun z => Ending.returned (.int .i64 z)) (by have := HR.out; omega), HB.out⟩
          | false =>
            rw [hp, if_neg (by decide)] at hA
            have HR := Lib.hid (show (k + 1) + eachL pLab (s.drop (k + 1)) = R by omega)
            clear hA hp
            go_wp2
            go_roundw
            case rel => exact ⟨k + 1, by go_num, by omega, HR, HB⟩
            case measure => simp [intOf]; omega
      · have q : (((x.toNat : Nat) : Int) == 92) = false := beq_eq_false_iff_ne.2 (fun e => h92 ((u8_eq x 92 (by omega)).1 e))
        rw [each_one pLab x _ (fun e => absurd e h92)] at hA
        clear hdr h92 hx
        go_wp2_with fail
        refine (lab1 x _).mono ?_
        rintro e w3 ⟨rfl, rfl⟩
        cases hp : pLab x with
        | true =>
          rw [hp, if_pos rfl] at hA
          have HR := Lib.hid hA
          clear hA hp
          go_wp2
          go_ret
          exact ⟨congrArg (fun z => Ending.returned (.int .i64 z)) (by have := HR.out; omega), HB.out⟩
        | false =>
          rw [hp, if_neg (by decide)] at hA
          have HR := Lib.hid (show (k + 1) + eachL pLab (s.drop (k + 1)) = R by omega)
          clear hA hp
          go_wp2
          go_roundw
          case rel => exact ⟨k + 1, by go_num, by omega, HR, HB⟩
          case measure => simp [intOf]; omega
    · have hnil : s.drop k = [] := List.drop_of_length_le (by omega)
      have HR := Lib.hid (show s.length = R by have := HA.out; rw [hnil] at this; simp [eachL] at this; omega)
      clear HA hnil
      go_wp2
      go_ret
      exact ⟨congrArg (fun z => Ending.returned (.int .i64 z)) (by have := HR.out; omega), HB.out⟩
end Go.Proofs.YtekifcbokdidlaaGreatDoor.PA

namespace Go.Proofs.YtekifcbokdidlaaGreatDoor.PA
open Go.RowKit Go.Proofs.YtekifcbokdidlaaGreatDoor.Pl Go.Proofs.YtekifcbokdidlaaGreatDoor.Pure Go.Proofs.YtekifcbokdidlaaGreatDoorW.PrintWords Go.Proofs.YtekifcbokdidlaaGreatDoorW.PrintLast Go.Proofs.YtekifcbokdidlaaGreatDoorW.PrintMore
set_option linter.unusedVariables false

/-- The address' end. -/
def pAng (x : UInt8) : Bool := decide (x = 60) || decide (x = 62) || decide (x = 10)
theorem ang1 (x : UInt8) (w : World) : Calls Tryz.prog 76 #[.int .u8 (x.toNat : Int)] w fun e w' => e = .returned (.bool (pAng x)) ∧ w = w' := by
  have e0 : ((x.toNat : Int) = 60) ↔ x = 60 := u8_eq _ 60 (by omega)
  have e1 : ((x.toNat : Int) = 62) ↔ x = 62 := u8_eq _ 62 (by omega)
  have e2 : ((x.toNat : Int) = 10) ↔ x = 10 := u8_eq _ 10 (by omega)
  by_cases h0 : x = 60
  · have HD := Lib.hid (show pAng x = true by rw [h0]; decide)
    have q0 : ((x.toNat : Int) == 60) = true := beq_iff_eq.2 (e0.2 h0)
    clear h0
    clear e0 e1 e2
    go_enter Tryz.func76, Tryz.ntmps76
    go_wp2
    go_ret
    exact ⟨congrArg (fun z => Ending.returned (.bool z)) HD.out.symm, rfl⟩
  · have q0 : ((x.toNat : Int) == 60) = false := beq_eq_false_iff_ne.2 (fun e => h0 (e0.1 e))
    by_cases h1 : x = 62
    · have HD := Lib.hid (show pAng x = true by rw [h1]; decide)
      have q1 : ((x.toNat : Int) == 62) = true := beq_iff_eq.2 (e1.2 h1)
      clear h0 h1
      clear e0 e1 e2
      go_enter Tryz.func76, Tryz.ntmps76
      go_wp2
      go_ret
      exact ⟨congrArg (fun z => Ending.returned (.bool z)) HD.out.symm, rfl⟩
    · have q1 : ((x.toNat : Int) == 62) = false := beq_eq_false_iff_ne.2 (fun e => h1 (e1.1 e))
      by_cases h2 : x = 10
      · have HD := Lib.hid (show pAng x = true by rw [h2]; decide)
        have q2 : ((x.toNat : Int) == 10) = true := beq_iff_eq.2 (e2.2 h2)
        clear h0 h1 h2
        clear e0 e1 e2
        go_enter Tryz.func76, Tryz.ntmps76
        go_wp2
        go_ret
        exact ⟨congrArg (fun z => Ending.returned (.bool z)) HD.out.symm, rfl⟩
      · have q2 : ((x.toNat : Int) == 10) = false := beq_eq_false_iff_ne.2 (fun e => h2 (e2.1 e))
        have HD := Lib.hid (show pAng x = false by unfold pAng; rw [decide_eq_false h0, decide_eq_false h1, decide_eq_false h2]; rfl)
        clear h0 h1 h2
        clear e0 e1 e2
        go_enter Tryz.func76, Tryz.ntmps76
        go_wp2
        go_ret
        exact ⟨congrArg (fun z => Ending.returned (.bool z)) HD.out.symm, rfl⟩
set_option maxHeartbeats 4000000 in
set_option maxRecDepth 100000 in
theorem each_ang (s : List UInt8) (hs : s.length ≤ 1099511627776) (f : Nat) (hf : f ≤ s.length) (w : World) : Calls Tryz.prog 45 #[.string (B s), .int .i64 f, .func (.func 76) #[] #[]] w fun e w' => e = .returned (.int .i64 ((f + eachL pAng (s.drop f) : Nat) : Int)) ∧ Below w.heap.size w w' := by
  have hsz : (B s).size = s.length := B_size s
  obtain ⟨R, hR⟩ : ∃ R, f + eachL pAng (s.drop f) = R := ⟨_, rfl⟩
  rw [hR]
  go_enter Tryz.func45, Tryz.ntmps45
  go_wp2
  go_loopw [7] (fun vi wr => ∃ k : Nat, vi = .int .i64 k ∧ k ≤ s.length ∧ Hid (k + eachL pAng (s.drop k) = R) ∧ Hid (Below w.heap.size w wr))
    (fun vi _ => s.length - (intOf vi).toNat)
  case atStart => exact ⟨f, rfl, hf, hR, Below.refl _ _⟩
  case round =>
    obtain ⟨k, rfl, hk, HA, HB⟩ := hrel
    by_cases hkn : k < s.length
    · have hks : k < (B s).size := by omega
      have hi : (B s)[k]'hks = s[k] := List.getElem_toArray hkn
      obtain ⟨x, hx⟩ : ∃ x, s[k] = x := ⟨_, rfl⟩
      have hdr : s.drop k = x :: s.drop (k + 1) := by rw [← hx]; exact List.drop_eq_getElem_cons hkn
      rw [hx] at hi
      have hA := HA.out
      rw [hdr] at hA
      have hsz2 := HB.out.size
      by_cases h92 : x = 92
      · have q : (((x.toNat : Nat) : Int) == 92) = true := by rw [h92]; rfl
        by_cases hk1 : k + 1 < s.length
        · have hks1 : k + 1 < (B s).size := by omega
          have hi1 : (B s)[k + 1]'hks1 = s[k + 1] := List.getElem_toArray hk1
          have q1 : decide ((k : Int) + 1 < (s.length : Int)) = true := decide_eq_true (by omega)
          obtain ⟨y, hy⟩ : ∃ y, s[k + 1] = y := ⟨_, rfl⟩
          have hdr2 : s.drop (k + 1) = y :: s.drop (k + 2) := by rw [← hy]; exact List.drop_eq_getElem_cons hk1
          rw [hy] at hi1
          rw [hdr2] at hA
          have HS := Lib.hid (sign_any y wr)
          cases hsg : sgn y with
          | true =>
            rw [each_esc pAng x y _ h92 hsg] at hA
            have HR := Lib.hid (show (k + 2) + eachL pAng (s.drop (k + 2)) = R by omega)
            clear hA hdr hdr2 h92 hx hy
            go_wp2_with fail
            refine HS.out.mono ?_
            rintro e w2 ⟨rfl, hb2⟩
            rw [hsg]
            have HB2 := Lib.hid (HB.out.trans (hb2.mono hsz2))
            clear hb2 HS hsg HB
            go_wp2
            go_roundw
            case rel => exact ⟨k + 2, by go_num, by omega, HR, HB2⟩
            case measure => simp [intOf]; omega
          | false =>
            rw [each_one pAng x _ (fun _ y' u e => by cases e; exact hsg), ← hdr2] at hA
            clear hdr hdr2 h92 hx hy
            go_wp2_with fail
            refine HS.out.mono ?_
            rintro e w2 ⟨rfl, hb2⟩
            rw [hsg]
            have HB2 := Lib.hid (HB.out.trans (hb2.mono hsz2))
            clear hb2 HS hsg HB
            go_wp2_with fail
            refine (ang1 x _).mono ?_
            rintro e w3 ⟨rfl, rfl⟩
            cases hp : pAng x with
            | true =>
              rw [hp, if_pos rfl] at hA
              have HR := Lib.hid hA
              clear hA hp
              go_wp2
              go_ret
              exact ⟨congrArg (fun z => Ending.returned (.int .i64 z)) (by have := HR.out; omega), HB2.out⟩
            | false =>
              rw [hp, if_neg (by decide)] at hA
              have HR := Lib.hid (show (k + 1) + eachL pAng (s.drop (k + 1)) = R by omega)
              clear hA hp
              go_wp2
              go_roundw
              case rel => exact ⟨k + 1, by go_num, by omega, HR, HB2⟩
              case measure => simp [intOf]; omega
        · have q1 : decide ((k : Int) + 1 < (s.length : Int)) = false := decide_eq_false (by omega)
          have hnil : s.drop (k + 1) = [] := List.drop_of_length_le (by omega)
          rw [each_one pAng x _ (fun _ y' u e => by rw [hnil] at e; cases e)] at hA
          clear hdr h92 hx hnil
          go_wp2_with fail
          refine (ang1 x _).mono ?_
          rintro e w3 ⟨rfl, rfl⟩
          cases hp : pAng x with
          | true =>
            rw [hp, if_pos rfl] at hA
            have HR := Lib.hid hA
            clear hA hp
            go_wp2
            go_ret
            exact ⟨congrArg (fun z => Ending.returned (.int .i64 z)) (by have := HR.out; omega), HB.out⟩
          | false =>
            rw [hp, if_neg (by decide)] at hA
            have HR := Lib.hid (show (k + 1) + eachL pAng (s.drop (k + 1)) = R by omega)
            clear hA hp
            go_wp2
            go_roundw
            case rel => exact ⟨k + 1, by go_num, by omega, HR, HB⟩
            case measure => simp [intOf]; omega
      · have q : (((x.toNat : Nat) : Int) == 92) = false := beq_eq_false_iff_ne.2 (fun e => h92 ((u8_eq x 92 (by omega)).1 e))
        rw [each_one pAng x _ (fun e => absurd e h92)] at hA
        clear hdr h92 hx
        go_wp2_with fail
        refine (ang1 x _).mono ?_
        rintro e w3 ⟨rfl, rfl⟩
        cases hp : pAng x with
        | true =>
          rw [hp, if_pos rfl] at hA
          have HR := Lib.hid hA
          clear hA hp
          go_wp2
          go_ret
          exact ⟨congrArg (fun z => Ending.returned (.int .i64 z)) (by have := HR.out; omega), HB.out⟩
        | false =>
          rw [hp, if_neg (by decide)] at hA
          have HR := Lib.hid (show (k + 1) + eachL pAng (s.drop (k + 1)) = R by omega)
          clear hA hp
          go_wp2
          go_roundw
          case rel => exact ⟨k + 1, by go_num, by omega, HR, HB⟩
          case measure => simp [intOf]; omega
    · have hnil : s.drop k = [] := List.drop_of_length_le (by omega)
      have HR := Lib.hid (show s.length = R by have := HA.out; rw [hnil] at this; simp [eachL] at this; omega)
      clear HA hnil
      go_wp2
      go_ret
      exact ⟨congrArg (fun z => Ending.returned (.int .i64 z)) (by have := HR.out; omega), HB.out⟩
end Go.Proofs.YtekifcbokdidlaaGreatDoor.PA

namespace Go.Proofs.YtekifcbokdidlaaGreatDoor.PA
open Go.RowKit Go.Proofs.YtekifcbokdidlaaGreatDoor.Pl Go.Proofs.YtekifcbokdidlaaGreatDoor.Pure Go.Proofs.YtekifcbokdidlaaGreatDoorW.PrintWords Go.Proofs.YtekifcbokdidlaaGreatDoorW.PrintLast Go.Proofs.YtekifcbokdidlaaGreatDoorW.PrintMore
set_option linter.unusedVariables false

/-- The title's end. -/
def pTit (en x : UInt8) : Bool := decide (x = en) || (decide (x = 40) && decide (en = 41))
theorem tit1 (x en : UInt8) (b : Nat) (w : World) (hc : w.cell? ⟨b, 0, none⟩ = some (.int .u8 (en.toNat : Int))) : Calls Tryz.prog 79 #[.int .u8 (x.toNat : Int), .pointer (some ⟨b, 0, none⟩)] w fun e w' => e = .returned (.bool (pTit en x)) ∧ w = w' := by
  have e0 : ((x.toNat : Int) = (en.toNat : Int)) ↔ x = en := ⟨fun h => UInt8.toNat_inj.1 (by omega), fun h => by rw [h]⟩
  have e1 : ((x.toNat : Int) = 40) ↔ x = 40 := u8_eq _ 40 (by omega)
  have e2 : ((en.toNat : Int) = 41) ↔ en = 41 := u8_eq _ 41 (by omega)
  by_cases h0 : x = en
  · have HD := Lib.hid (show pTit en x = true by unfold pTit; rw [decide_eq_true h0]; rfl)
    have q0 : ((x.toNat : Int) == (en.toNat : Int)) = true := beq_iff_eq.2 (e0.2 h0)
    clear h0
    clear e0 e1 e2
    go_enter Tryz.func79, Tryz.ntmps79
    go_wp2
    go_ret
    exact ⟨congrArg (fun z => Ending.returned (.bool z)) HD.out.symm, rfl⟩
  · have q0 : ((x.toNat : Int) == (en.toNat : Int)) = false := beq_eq_false_iff_ne.2 (fun e => h0 (e0.1 e))
    by_cases h1 : x = 40
    · have q1 : ((x.toNat : Int) == 40) = true := beq_iff_eq.2 (e1.2 h1)
      by_cases h2 : en = 41
      · have HD := Lib.hid (show pTit en x = true by unfold pTit; rw [decide_eq_true h1, decide_eq_true h2, Bool.and_self, Bool.or_true])
        have q2 : ((en.toNat : Int) == 41) = true := beq_iff_eq.2 (e2.2 h2)
        clear h0 h1 h2
        clear e0 e1 e2
        go_enter Tryz.func79, Tryz.ntmps79
        go_wp2
        go_ret
        exact ⟨congrArg (fun z => Ending.returned (.bool z)) HD.out.symm, rfl⟩
      · have HD := Lib.hid (show pTit en x = false by unfold pTit; rw [decide_eq_false h0, decide_eq_false h2, Bool.and_false]; rfl)
        have q2 : ((en.toNat : Int) == 41) = false := beq_eq_false_iff_ne.2 (fun e => h2 (e2.1 e))
        clear h0 h1 h2
        clear e0 e1 e2
        go_enter Tryz.func79, Tryz.ntmps79
        go_wp2
        go_ret
        exact ⟨congrArg (fun z => Ending.returned (.bool z)) HD.out.symm, rfl⟩
    · have HD := Lib.hid (show pTit en x = false by unfold pTit; rw [decide_eq_false h0, decide_eq_false h1]; rfl)
      have q1 : ((x.toNat : Int) == 40) = false := beq_eq_false_iff_ne.2 (fun e => h1 (e1.1 e))
      clear h0 h1
      clear e0 e1 e2
      go_enter Tryz.func79, Tryz.ntmps79
      go_wp2
      go_ret
      exact ⟨congrArg (fun z => Ending.returned (.bool z)) HD.out.symm, rfl⟩
set_option maxHeartbeats 4000000 in
set_option maxRecDepth 100000 in
theorem each_tit (s : List UInt8) (hs : s.length ≤ 1099511627776) (f : Nat) (hf : f ≤ s.length) (b : Nat) (en : UInt8) (w : World) (hbx : b < w.heap.size) (hcx : w.cell? ⟨b, 0, none⟩ = some (.int .u8 (en.toNat : Int))) : Calls Tryz.prog 45 #[.string (B s), .int .i64 f, .func (.func 79) #[] #[.pointer (some ⟨b, 0, none⟩)]] w fun e w' => e = .returned (.int .i64 ((f + eachL (pTit en) (s.drop f) : Nat) : Int)) ∧ Below w.heap.size w w' := by
  have hsz : (B s).size = s.length := B_size s
  obtain ⟨R, hR⟩ : ∃ R, f + eachL (pTit en) (s.drop f) = R := ⟨_, rfl⟩
  rw [hR]
  go_enter Tryz.func45, Tryz.ntmps45
  go_wp2
  go_loopw [7] (fun vi wr => ∃ k : Nat, vi = .int .i64 k ∧ k ≤ s.length ∧ Hid (k + eachL (pTit en) (s.drop k) = R) ∧ Hid (Below w.heap.size w wr))
    (fun vi _ => s.length - (intOf vi).toNat)
  case atStart => exact ⟨f, rfl, hf, hR, Below.refl _ _⟩
  case round =>
    obtain ⟨k, rfl, hk, HA, HB⟩ := hrel
    by_cases hkn : k < s.length
    · have hks : k < (B s).size := by omega
      have hi : (B s)[k]'hks = s[k] := List.getElem_toArray hkn
      obtain ⟨x, hx⟩ : ∃ x, s[k] = x := ⟨_, rfl⟩
      have hdr : s.drop k = x :: s.drop (k + 1) := by rw [← hx]; exact List.drop_eq_getElem_cons hkn
      rw [hx] at hi
      have hA := HA.out
      rw [hdr] at hA
      have hsz2 := HB.out.size
      by_cases h92 : x = 92
      · have q : (((x.toNat : Nat) : Int) == 92) = true := by rw [h92]; rfl
        by_cases hk1 : k + 1 < s.length
        · have hks1 : k + 1 < (B s).size := by omega
          have hi1 : (B s)[k + 1]'hks1 = s[k + 1] := List.getElem_toArray hk1
          have q1 : decide ((k : Int) + 1 < (s.length : Int)) = true := decide_eq_true (by omega)
          obtain ⟨y, hy⟩ : ∃ y, s[k + 1] = y := ⟨_, rfl⟩
          have hdr2 : s.drop (k + 1) = y :: s.drop (k + 2) := by rw [← hy]; exact List.drop_eq_getElem_cons hk1
          rw [hy] at hi1
          rw [hdr2] at hA
          have HS := Lib.hid (sign_any y wr)
          cases hsg : sgn y with
          | true =>
            rw [each_esc (pTit en) x y _ h92 hsg] at hA
            have HR := Lib.hid (show (k + 2) + eachL (pTit en) (s.drop (k + 2)) = R by omega)
            clear hA hdr hdr2 h92 hx hy
            go_wp2_with fail
            refine HS.out.mono ?_
            rintro e w2 ⟨rfl, hb2⟩
            rw [hsg]
            have HB2 := Lib.hid (HB.out.trans (hb2.mono hsz2))
            clear hb2 HS hsg HB
            go_wp2
            go_roundw
            case rel => exact ⟨k + 2, by go_num, by omega, HR, HB2⟩
            case measure => simp [intOf]; omega
          | false =>
            rw [each_one (pTit en) x _ (fun _ y' u e => by cases e; exact hsg), ← hdr2] at hA
            clear hdr hdr2 h92 hx hy
            go_wp2_with fail
            refine HS.out.mono ?_
            rintro e w2 ⟨rfl, hb2⟩
            rw [hsg]
            have HB2 := Lib.hid (HB.out.trans (hb2.mono hsz2))
            clear hb2 HS hsg HB
            go_wp2_with fail
            refine (tit1 x en b _ ((HB2.out.cell (p := ⟨b, 0, none⟩) hbx).trans hcx)).mono ?_
            rintro e w3 ⟨rfl, rfl⟩
            cases hp : (pTit en) x with
            | true =>
              rw [hp, if_pos rfl] at hA
              have HR := Lib.hid hA
              clear hA hp
              go_wp2
              go_ret
              exact ⟨congrArg (fun z => Ending.returned (.int .i64 z)) (by have := HR.out; omega), HB2.out⟩
            | false =>
              rw [hp, if_neg (by decide)] at hA
              have HR := Lib.hid (show (k + 1) + eachL (pTit en) (s.drop (k + 1)) = R by omega)
              clear hA hp
              go_wp2
              go_roundw
              case rel => exact ⟨k + 1, by go_num, by omega, HR, HB2⟩
              case measure => simp [intOf]; omega
        · have q1 : decide ((k : Int) + 1 < (s.length : Int)) = false := decide_eq_false (by omega)
          have hnil : s.drop (k + 1) = [] := List.drop_of_length_le (by omega)
          rw [each_one (pTit en) x _ (fun _ y' u e => by rw [hnil] at e; cases e)] at hA
          clear hdr h92 hx hnil
          go_wp2_with fail
          refine (tit1 x en b _ ((HB.out.cell (p := ⟨b, 0, none⟩) hbx).trans hcx)).mono ?_
          rintro e w3 ⟨rfl, rfl⟩
          cases hp : (pTit en) x with
          | true =>
            rw [hp, if_pos rfl] at hA
            have HR := Lib.hid hA
            clear hA hp
            go_wp2
            go_ret
            exact ⟨congrArg (fun z => Ending.returned (.int .i64 z)) (by have := HR.out; omega), HB.out⟩
          | false =>
            rw [hp, if_neg (by decide)] at hA
            have HR := Lib.hid (show (k + 1) + eachL (pTit en) (s.drop (k + 1)) = R by omega)
            clear hA hp
            go_wp2
            go_roundw
            case rel => exact ⟨k + 1, by go_num, by omega, HR, HB⟩
            case measure => simp [intOf]; omega
      · have q : (((x.toNat : Nat) : Int) == 92) = false := beq_eq_false_iff_ne.2 (fun e => h92 ((u8_eq x 92 (by omega)).1 e))
        rw [each_one (pTit en) x _ (fun e => absurd e h92)] at hA
        clear hdr h92 hx
        go_wp2_with fail
        refine (tit1 x en b _ ((HB.out.cell (p := ⟨b, 0, none⟩) hbx).trans hcx)).mono ?_
        rintro e w3 ⟨rfl, rfl⟩
        cases hp : (pTit en) x with
        | true =>
          rw [hp, if_pos rfl] at hA
          have HR := Lib.hid hA
          clear hA hp
          go_wp2
          go_ret
          exact ⟨congrArg (fun z => Ending.returned (.int .i64 z)) (by have := HR.out; omega), HB.out⟩
        | false =>
          rw [hp, if_neg (by decide)] at hA
          have HR := Lib.hid (show (k + 1) + eachL (pTit en) (s.drop (k + 1)) = R by omega)
          clear hA hp
          go_wp2
          go_roundw
          case rel => exact ⟨k + 1, by go_num, by omega, HR, HB⟩
          case measure => simp [intOf]; omega
    · have hnil : s.drop k = [] := List.drop_of_length_le (by omega)
      have HR := Lib.hid (show s.length = R by have := HA.out; rw [hnil] at this; simp [eachL] at this; omega)
      clear HA hnil
      go_wp2
      go_ret
      exact ⟨congrArg (fun z => Ending.returned (.int .i64 z)) (by have := HR.out; omega), HB.out⟩
end Go.Proofs.YtekifcbokdidlaaGreatDoor.PA

namespace Go.Proofs.YtekifcbokdidlaaGreatDoor.PA
open Go.RowKit Go.Proofs.YtekifcbokdidlaaGreatDoor.Pl Go.Proofs.YtekifcbokdidlaaGreatDoor.Pure Go.Proofs.YtekifcbokdidlaaGreatDoorW.PrintWords Go.Proofs.YtekifcbokdidlaaGreatDoorW.PrintLast Go.Proofs.YtekifcbokdidlaaGreatDoorW.PrintMore
set_option linter.unusedVariables false

/-- Does an address end at a byte? -/
def dstp (o : Nat) (x : UInt8) : Bool := decide (x.toNat ≤ 32) || (decide (x = 127) || (decide (x = 41) && decide (o = 0)))
/-- How many are open behind a byte. -/
def dsto (o : Nat) (x : UInt8) : Nat := if x = 41 then o - 1 else if x = 40 then o + 1 else o
/-- Were they too deep? -/
def dstd (o : Nat) (d : Bool) (x : UInt8) : Bool := if x = 40 then d || decide (32 < o + 1) else d
/-- How far an address goes, how many are open there, and whether they were too deep. -/
def dstL : List UInt8 → Nat → Bool → Nat × Nat × Bool
  | [], o, d => (0, o, d)
  | [x], o, d => if dstp o x = true then (0, o, d) else (1, dsto o x, dstd o d x)
  | x :: y :: t, o, d => if x = 92 ∧ sgn y = true then ((dstL t o d).1 + 2, (dstL t o d).2) else if dstp o x = true then (0, o, d) else ((dstL (y :: t) (dsto o x) (dstd o d x)).1 + 1, (dstL (y :: t) (dsto o x) (dstd o d x)).2)
theorem dst_esc (x y : UInt8) (t : List UInt8) (o : Nat) (d : Bool) (h : x = 92) (h2 : sgn y = true) : dstL (x :: y :: t) o d = ((dstL t o d).1 + 2, (dstL t o d).2) := by rw [dstL, if_pos ⟨h, h2⟩]
theorem dst_one (x : UInt8) (t : List UInt8) (o : Nat) (d : Bool) (h : x = 92 → ∀ y u, t = y :: u → sgn y = false) :
    dstL (x :: t) o d = if dstp o x = true then (0, o, d) else ((dstL t (dsto o x) (dstd o d x)).1 + 1, (dstL t (dsto o x) (dstd o d x)).2) := by
  cases t with
  | nil => rfl
  | cons y u =>
    rw [dstL, if_neg]
    rintro ⟨h1, h2⟩
    rw [h h1 y u rfl] at h2
    cases h2
/-- Two boxes. -/
def Box2 (b : Nat) (o : Nat) (d : Bool) (W : World) : Prop :=
  W.heap[b]? = some (.cells #[.int .i64 (o : Int)] 3 (0, 0)) ∧ W.heap[b + 1]? = some (.cells #[.bool d] 4 (0, 0))
theorem two_other {w : World} {b k : Nat} {u : Value} (h : k ≠ b) : (w.setCell ⟨b, 0, none⟩ u).heap[k]? = w.heap[k]? := Below.heap_setCell _ _ _ _ h
theorem box2_o {b o : Nat} {d : Bool} {W : World} (v : Nat) (h : Box2 b o d W) : Box2 b v d (W.setCell ⟨b, 0, none⟩ (.int .i64 (v : Int))) :=
  ⟨one_setCell h.1, (two_other (by omega)).trans h.2⟩
theorem box2_d {b o : Nat} {d : Bool} {W : World} (v : Bool) (h : Box2 b o d W) : Box2 b o v (W.setCell ⟨b + 1, 0, none⟩ (.bool v)) :=
  ⟨(two_other (by omega)).trans h.1, one_setCell h.2⟩
theorem box2_lt {b o : Nat} {d : Bool} {W : World} (h : Box2 b o d W) : b + 1 < W.heap.size := by
  rcases Nat.lt_or_ge (b + 1) W.heap.size with h1 | h1
  · exact h1
  · have := h.2
    rw [Array.getElem?_eq_none h1] at this
    cases this
theorem box2_below {b o : Nat} {d : Bool} {W W' : World} (h : Box2 b o d W) (hb : Below W.heap.size W W') : Box2 b o d W' := by
  have hl := box2_lt h
  exact ⟨(hb.block b (by omega)).trans h.1, (hb.block (b + 1) hl).trans h.2⟩
theorem dst1_stop (x : UInt8) (o : Nat) (d : Bool) (b : Nat) (W : World) (h : Box2 b o d W) (hp : dstp o x = true) (ho : o ≤ 1099511627776) :
    Calls Tryz.prog 51 #[.int .u8 (x.toNat : Int), .pointer (some ⟨b, 0, none⟩), .pointer (some ⟨b + 1, 0, none⟩)] W fun e w' => e = .returned (.bool true) ∧ w' = W := by
  have c1 := cell_of_one h.1
  have e1 : ((x.toNat : Int) = 127) ↔ x = 127 := u8_eq _ 127 (by omega)
  have e2 : ((x.toNat : Int) = 41) ↔ x = 41 := u8_eq _ 41 (by omega)
  by_cases h0 : x.toNat ≤ 32
  · have q0 : decide ((x.toNat : Int) ≤ 32) = true := decide_eq_true (by omega)
    clear hp h e1 e2 h0
    go_enter Tryz.func51, Tryz.ntmps51
    go_wp2
    go_ret
    exact ⟨rfl, rfl⟩
  · have q0 : decide ((x.toNat : Int) ≤ 32) = false := decide_eq_false (by omega)
    by_cases h1 : x = 127
    · have q1 : ((x.toNat : Int) == 127) = true := beq_iff_eq.2 (e1.2 h1)
      clear hp h e1 e2 h0 h1
      go_enter Tryz.func51, Tryz.ntmps51
      go_wp2
      go_ret
      exact ⟨rfl, rfl⟩
    · have q1 : ((x.toNat : Int) == 127) = false := beq_eq_false_iff_ne.2 (fun e => h1 (e1.1 e))
      unfold dstp at hp
      rw [decide_eq_false h0, decide_eq_false h1, Bool.false_or, Bool.false_or, Bool.and_eq_true, decide_eq_true_eq, decide_eq_true_eq] at hp
      obtain ⟨h2, rfl⟩ := hp
      have q2 : ((x.toNat : Int) == 41) = true := beq_iff_eq.2 (e2.2 h2)
      have q3 : (((0 : Nat) : Int) == 0) = true := rfl
      clear h e1 e2 h0 h1 h2
      go_enter Tryz.func51, Tryz.ntmps51
      go_wp2
      go_ret
      exact ⟨rfl, rfl⟩
set_option maxHeartbeats 1000000 in
theorem dst1_go (x : UInt8) (o : Nat) (d : Bool) (b : Nat) (W : World) (h : Box2 b o d W) (hp : dstp o x = false) (ho : o ≤ 1099511627776) :
    Calls Tryz.prog 51 #[.int .u8 (x.toNat : Int), .pointer (some ⟨b, 0, none⟩), .pointer (some ⟨b + 1, 0, none⟩)] W
      fun e w' => e = .returned (.bool false) ∧ Box2 b (dsto o x) (dstd o d x) w' ∧ Below b W w' := by
  have HX := Aside0.mk h
  have c1 := cell_of_one h.1
  have f1 := free_of_one h.1
  have e1 : ((x.toNat : Int) = 127) ↔ x = 127 := u8_eq _ 127 (by omega)
  have e2 : ((x.toNat : Int) = 41) ↔ x = 41 := u8_eq _ 41 (by omega)
  have e3 : ((x.toNat : Int) = 40) ↔ x = 40 := u8_eq _ 40 (by omega)
  unfold dstp at hp
  simp only [Bool.or_eq_false_iff, Bool.and_eq_false_iff, decide_eq_false_iff_not] at hp
  obtain ⟨h0, h1, h4⟩ := hp
  have q0 : decide ((x.toNat : Int) ≤ 32) = false := decide_eq_false (by omega)
  have q1 : ((x.toNat : Int) == 127) = false := beq_eq_false_iff_ne.2 (fun e => h1 (e1.1 e))
  by_cases h2 : x = 41
  · have ho0 : o ≠ 0 := by rcases h4 with h4 | h4; exact absurd h2 h4; exact h4
    have q2 : ((x.toNat : Int) == 41) = true := beq_iff_eq.2 (e2.2 h2)
    have q3 : ((o : Int) == 0) = false := beq_eq_false_iff_ne.2 (by omega)
    have HO := Aside0.mk (show dsto o x = o - 1 ∧ dstd o d x = d ∧ (o : Int) - 1 = ((o - 1 : Nat) : Int) by subst h2; exact ⟨rfl, rfl, by omega⟩)
    clear h e1 e2 e3 h0 h1 h2 h4
    go_enter Tryz.func51, Tryz.ntmps51
    go_wp2
    go_ret
    rw [HO.out.1, HO.out.2.1, HO.out.2.2]
    exact ⟨rfl, box2_o _ HX.out, (Below.refl b W).setCell (p := ⟨b, 0, none⟩) (Nat.le_refl _) _⟩
  · have q2 : ((x.toNat : Int) == 41) = false := beq_eq_false_iff_ne.2 (fun e => h2 (e2.1 e))
    by_cases h3 : x = 40
    · have q4 : ((x.toNat : Int) == 40) = true := beq_iff_eq.2 (e3.2 h3)
      have HO := Aside0.mk (show dsto o x = o + 1 ∧ dstd o d x = (d || decide (32 < o + 1)) by subst h3; exact ⟨rfl, rfl⟩)
      have B1 := Aside0.mk (box2_o (o + 1) h)
      have c2 := cell_of_one B1.out.2
      have f2 := free_of_one B1.out.2
      have c3 := cell_of_one B1.out.1
      rw [show ((o + 1 : Nat) : Int) = (o : Int) + 1 from rfl] at c2 f2 c3
      clear h e1 e2 e3 h0 h1 h2 h4 h3
      cases d with
      | true =>
        go_enter Tryz.func51, Tryz.ntmps51
        go_wp2
        go_ret
        rw [HO.out.1, HO.out.2]
        exact ⟨rfl, box2_d true (box2_o (o + 1) HX.out), ((Below.refl b W).setCell (p := ⟨b, 0, none⟩) (Nat.le_refl _) _).setCell (p := ⟨b + 1, 0, none⟩) (Nat.le_succ _) _⟩
      | false =>
        have q5 : decide ((32 : Int) < (o : Int) + 1) = decide (32 < o + 1) := by
          by_cases hq : 32 < o + 1
          · rw [decide_eq_true hq]; exact decide_eq_true (by omega)
          · rw [decide_eq_false hq]; exact decide_eq_false (by omega)
        go_enter Tryz.func51, Tryz.ntmps51
        go_wp2
        go_ret
        rw [HO.out.1, HO.out.2]
        exact ⟨rfl, box2_d _ (box2_o (o + 1) HX.out), ((Below.refl b W).setCell (p := ⟨b, 0, none⟩) (Nat.le_refl _) _).setCell (p := ⟨b + 1, 0, none⟩) (Nat.le_succ _) _⟩
    · have q4 : ((x.toNat : Int) == 40) = false := beq_eq_false_iff_ne.2 (fun e => h3 (e3.1 e))
      have HO := Aside0.mk (show dsto o x = o ∧ dstd o d x = d by unfold dsto dstd; rw [if_neg h2, if_neg h3, if_neg h3]; exact ⟨rfl, rfl⟩)
      clear h e1 e2 e3 h0 h1 h2 h4 h3
      go_enter Tryz.func51, Tryz.ntmps51
      go_wp2
      go_ret
      rw [HO.out.1, HO.out.2]
      exact ⟨rfl, HX.out, Below.refl _ _⟩
theorem dsto_le (o : Nat) (x : UInt8) (k : Nat) (h : o ≤ k) : dsto o x ≤ k + 1 := by
  unfold dsto
  split
  · omega
  · split <;> omega
set_option maxHeartbeats 4000000 in
set_option maxRecDepth 100000 in
theorem each_dst (s : List UInt8) (hs : s.length ≤ 1099511627776) (b : Nat) (w : World) (hbx : Box2 b 0 false w) :
    Calls Tryz.prog 45 #[.string (B s), .int .i64 0, .func (.func 51) #[] #[.pointer (some ⟨b, 0, none⟩), .pointer (some ⟨b + 1, 0, none⟩)]] w
      fun e w' => e = .returned (.int .i64 (((dstL s 0 false).1 : Nat) : Int)) ∧ Box2 b (dstL s 0 false).2.1 (dstL s 0 false).2.2 w' ∧ Below b w w' := by
  have hsz : (B s).size = s.length := B_size s
  obtain ⟨R, hR⟩ : ∃ R, dstL s 0 false = R := ⟨_, rfl⟩
  rw [hR]
  have HX0 := Lib.hid hbx
  clear hbx
  go_enter Tryz.func45, Tryz.ntmps45
  go_wp2
  go_loopw [7] (fun vi wr => ∃ (k o : Nat) (d : Bool), vi = .int .i64 k ∧ k ≤ s.length ∧ Hid (o ≤ k) ∧ Hid ((k + (dstL (s.drop k) o d).1, (dstL (s.drop k) o d).2) = R) ∧ Hid (Box2 b o d wr) ∧ Hid (Below b w wr))
    (fun vi _ => s.length - (intOf vi).toNat)
  case atStart => exact ⟨0, 0, false, rfl, by omega, Lib.hid (Nat.le_refl _), Lib.hid (by rw [List.drop_zero, hR]; simp), HX0, Lib.hid (Below.refl _ _)⟩
  case round =>
    obtain ⟨k, o, d, rfl, hk, HO, HA, HX, HB⟩ := hrel
    have ho := HO.out
    by_cases hkn : k < s.length
    · have hks : k < (B s).size := by omega
      have hi : (B s)[k]'hks = s[k] := List.getElem_toArray hkn
      obtain ⟨x, hx⟩ : ∃ x, s[k] = x := ⟨_, rfl⟩
      have hdr : s.drop k = x :: s.drop (k + 1) := by rw [← hx]; exact List.drop_eq_getElem_cons hkn
      rw [hx] at hi
      have hA := HA.out
      rw [hdr] at hA
      by_cases h92 : x = 92
      · have q : (((x.toNat : Nat) : Int) == 92) = true := by rw [h92]; rfl
        by_cases hk1 : k + 1 < s.length
        · have hks1 : k + 1 < (B s).size := by omega
          have hi1 : (B s)[k + 1]'hks1 = s[k + 1] := List.getElem_toArray hk1
          have q1 : decide ((k : Int) + 1 < (s.length : Int)) = true := decide_eq_true (by omega)
          obtain ⟨y, hy⟩ : ∃ y, s[k + 1] = y := ⟨_, rfl⟩
          have hdr2 : s.drop (k + 1) = y :: s.drop (k + 2) := by rw [← hy]; exact List.drop_eq_getElem_cons hk1
          rw [hy] at hi1
          rw [hdr2] at hA
          have HS := Lib.hid (sign_any y wr)
          have hlt := box2_lt HX.out
          cases hsg : sgn y with
          | true =>
            rw [dst_esc x y _ o d h92 hsg] at hA
            have HR := Lib.hid (show ((k + 2) + (dstL (s.drop (k + 2)) o d).1, (dstL (s.drop (k + 2)) o d).2) = R by rw [← hA]; exact Prod.ext (by show _ = k + (_ + 2); omega) rfl)
            clear hA hdr hdr2 h92 hx hy
            go_wp2_with fail
            refine HS.out.mono ?_
            rintro e w2 ⟨rfl, hb2⟩
            rw [hsg]
            have HB2 := Lib.hid (HB.out.trans (hb2.mono (by omega)))
            have HX2 := Lib.hid (box2_below HX.out hb2)
            have HO2 := Lib.hid (show o ≤ k + 2 by omega)
            clear hb2 HS hsg HB hlt
            go_wp2
            go_roundw
            case rel => exact ⟨k + 2, o, d, by go_num, by omega, HO2, HR, HX2, HB2⟩
            case measure => simp [intOf]; omega
          | false =>
            rw [dst_one x _ o d (fun _ y' u e => by cases e; exact hsg), ← hdr2] at hA
            clear hdr hdr2 h92 hx hy
            go_wp2_with fail
            refine HS.out.mono ?_
            rintro e w2 ⟨rfl, hb2⟩
            rw [hsg]
            have HB2 := Lib.hid (HB.out.trans (hb2.mono (by omega)))
            have HX2 := Lib.hid (box2_below HX.out hb2)
            clear hb2 HS hsg HB hlt
            cases hp : dstp o x with
            | true =>
              rw [hp, if_pos rfl] at hA
              have HR := Lib.hid hA
              go_wp2_with fail
              refine (dst1_stop x o d b _ HX2.out hp (by omega)).mono ?_
              rintro e w3 ⟨rfl, rfl⟩
              clear hA hp
              go_wp2
              go_ret
              exact ⟨congrArg (fun z => Ending.returned (.int .i64 z)) (by have := HR.out; rw [← this]; simp), by have := HR.out; rw [← this]; exact HX2.out, HB2.out⟩
            | false =>
              rw [hp, if_neg (by decide)] at hA
              have HR := Lib.hid (show ((k + 1) + (dstL (s.drop (k + 1)) (dsto o x) (dstd o d x)).1, (dstL (s.drop (k + 1)) (dsto o x) (dstd o d x)).2) = R by rw [← hA]; exact Prod.ext (by show _ = k + (_ + 1); omega) rfl)
              go_wp2_with fail
              refine (dst1_go x o d b _ HX2.out hp (by omega)).mono ?_
              rintro e w3 ⟨rfl, hx3, hb3⟩
              have HX3 := Lib.hid hx3
              have HB3 := Lib.hid (HB2.out.trans hb3)
              have HO3 := Lib.hid (dsto_le o x k ho)
              clear hA hp hx3 hb3
              go_wp2
              go_roundw
              case rel => exact ⟨k + 1, dsto o x, dstd o d x, by go_num, by omega, HO3, HR, HX3, HB3⟩
              case measure => simp [intOf]; omega
        · have q1 : decide ((k : Int) + 1 < (s.length : Int)) = false := decide_eq_false (by omega)
          have hnil : s.drop (k + 1) = [] := List.drop_of_length_le (by omega)
          rw [dst_one x _ o d (fun _ y' u e => by rw [hnil] at e; cases e)] at hA
          clear hdr h92 hx hnil
          cases hp : dstp o x with
          | true =>
            rw [hp, if_pos rfl] at hA
            have HR := Lib.hid hA
            go_wp2_with fail
            refine (dst1_stop x o d b _ HX.out hp (by omega)).mono ?_
            rintro e w3 ⟨rfl, rfl⟩
            clear hA hp
            go_wp2
            go_ret
            exact ⟨congrArg (fun z => Ending.returned (.int .i64 z)) (by have := HR.out; rw [← this]; simp), by have := HR.out; rw [← this]; exact HX.out, HB.out⟩
          | false =>
            rw [hp, if_neg (by decide)] at hA
            have HR := Lib.hid (show ((k + 1) + (dstL (s.drop (k + 1)) (dsto o x) (dstd o d x)).1, (dstL (s.drop (k + 1)) (dsto o x) (dstd o d x)).2) = R by rw [← hA]; exact Prod.ext (by show _ = k + (_ + 1); omega) rfl)
            go_wp2_with fail
            refine (dst1_go x o d b _ HX.out hp (by omega)).mono ?_
            rintro e w3 ⟨rfl, hx3, hb3⟩
            have HX3 := Lib.hid hx3
            have HB3 := Lib.hid (HB.out.trans hb3)
            have HO3 := Lib.hid (dsto_le o x k ho)
            clear hA hp hx3 hb3
            go_wp2
            go_roundw
            case rel => exact ⟨k + 1, dsto o x, dstd o d x, by go_num, by omega, HO3, HR, HX3, HB3⟩
            case measure => simp [intOf]; omega
      · have q : (((x.toNat : Nat) : Int) == 92) = false := beq_eq_false_iff_ne.2 (fun e => h92 ((u8_eq x 92 (by omega)).1 e))
        rw [dst_one x _ o d (fun e => absurd e h92)] at hA
        clear hdr h92 hx
        cases hp : dstp o x with
        | true =>
          rw [hp, if_pos rfl] at hA
          have HR := Lib.hid hA
          go_wp2_with fail
          refine (dst1_stop x o d b _ HX.out hp (by omega)).mono ?_
          rintro e w3 ⟨rfl, rfl⟩
          clear hA hp
          go_wp2
          go_ret
          exact ⟨congrArg (fun z => Ending.returned (.int .i64 z)) (by have := HR.out; rw [← this]; simp), by have := HR.out; rw [← this]; exact HX.out, HB.out⟩
        | false =>
          rw [hp, if_neg (by decide)] at hA
          have HR := Lib.hid (show ((k + 1) + (dstL (s.drop (k + 1)) (dsto o x) (dstd o d x)).1, (dstL (s.drop (k + 1)) (dsto o x) (dstd o d x)).2) = R by rw [← hA]; exact Prod.ext (by show _ = k + (_ + 1); omega) rfl)
          go_wp2_with fail
          refine (dst1_go x o d b _ HX.out hp (by omega)).mono ?_
          rintro e w3 ⟨rfl, hx3, hb3⟩
          have HX3 := Lib.hid hx3
          have HB3 := Lib.hid (HB.out.trans hb3)
          have HO3 := Lib.hid (dsto_le o x k ho)
          clear hA hp hx3 hb3
          go_wp2
          go_roundw
          case rel => exact ⟨k + 1, dsto o x, dstd o d x, by go_num, by omega, HO3, HR, HX3, HB3⟩
          case measure => simp [intOf]; omega
    · have hnil : s.drop k = [] := List.drop_of_length_le (by omega)
      have HR := Lib.hid (show (s.length, o, d) = R by have := HA.out; rw [hnil] at this; rw [← this]; exact Prod.ext (by show _ = k + 0; omega) rfl)
      clear HA hnil
      go_wp2
      go_ret
      exact ⟨congrArg (fun z => Ending.returned (.int .i64 z)) (by have := HR.out; rw [← this]), by have := HR.out; rw [← this]; exact HX.out, HB.out⟩
end Go.Proofs.YtekifcbokdidlaaGreatDoor.PA

namespace Go.Proofs.YtekifcbokdidlaaGreatDoor.Pure
open Go.RowKit Go.Proofs.YtekifcbokdidlaaGreatDoorW.PrintWords Go.Proofs.YtekifcbokdidlaaGreatDoorW.PrintMore Go.Proofs.YtekifcbokdidlaaGreatDoor.Pl Go.Proofs.YtekifcbokdidlaaGreatDoor.PA

/-- How much white a text begins with. -/
def wht (s : List UInt8) : Nat := s.length - (Lib.trimLeftS s [32, 9, 10]).length
theorem trim_le (s c : List UInt8) : (Lib.trimLeftS s c).length ≤ s.length := by
  unfold Lib.trimLeftS
  exact (List.dropWhile_suffix _).length_le
theorem wht_int (s : List UInt8) : (s.length : Int) - ((Lib.trimLeftS s [32, 9, 10]).length : Int) = (wht s : Int) := by
  have := trim_le s [32, 9, 10]
  unfold wht
  omega
/-- The label a text begins with, and how long it is. -/
def lab : List UInt8 → List UInt8 × Nat
  | [] => ([], 0)
  | x :: t => if x = 91 then
      match t.drop (eachL pLab t) with
      | [] => ([], 0)
      | y :: _ => if y = 91 ∨ 999 < eachL pLab t ∨ wht (t.take (eachL pLab t)) = eachL pLab t then ([], 0) else (t.take (eachL pLab t), eachL pLab t + 2)
    else ([], 0)
/-- An address in brackets, behind the first one. -/
def ang (t : List UInt8) : List UInt8 × Nat × Bool :=
  match t.drop (eachL pAng t) with
  | [] => ([], 0, false)
  | y :: _ => if y = 62 then (une (t.take (eachL pAng t)), eachL pAng t + 2, true) else ([], 0, false)
/-- The address a text begins with, and how long it is. -/
def dst (s : List UInt8) : List UInt8 × Nat × Bool :=
  if s.head? = some 60 then ang (s.drop 1)
  else if (dstL s 0 false).1 = 0 ∨ 0 < (dstL s 0 false).2.1 ∨ (dstL s 0 false).2.2 = true then ([], 0, false)
  else (une (s.take (dstL s 0 false).1), (dstL s 0 false).1, true)
/-- What a title ends with. -/
def cls : List UInt8 → UInt8
  | [] => 0
  | x :: _ => if x = 34 then x else if x = 39 then x else if x = 40 then 41 else 0
/-- Is a text blank? -/
def blk (s : List UInt8) : Bool := s.all fun x => decide (x = 32) || decide (x = 9)
/-- A text cut at its LF: what has come of this line, what is left. -/
def lf : List UInt8 → List UInt8 → List (List UInt8)
  | cur, [] => [cur]
  | cur, x :: t => if x = 10 then cur :: lf [] t else lf (cur ++ [x]) t
theorem lf_none : ∀ (t cur : List UInt8), (10 : UInt8) ∉ t → lf cur t = [cur ++ t]
  | [], cur, _ => by simp [lf]
  | x :: t, cur, h => by
    rw [List.mem_cons, not_or] at h
    rw [lf, if_neg (fun e => h.1 e.symm), lf_none t _ h.2, List.append_assoc]
    rfl
theorem lf_cut : ∀ (p cur r : List UInt8), (10 : UInt8) ∉ p → lf cur (p ++ 10 :: r) = (cur ++ p) :: lf [] r
  | [], cur, r, _ => by simp [lf]
  | x :: p, cur, r, h => by
    rw [List.mem_cons, not_or] at h
    rw [List.cons_append, lf, if_neg (fun e => h.1 e.symm), lf_cut p _ r h.2, List.append_assoc]
    rfl
theorem lf_pos : ∀ (t cur : List UInt8), lf cur t ≠ []
  | [], _ => by simp [lf]
  | x :: t, cur => by
    rw [lf]
    split
    · simp
    · exact lf_pos t _
theorem ib_first : ∀ (p r : List UInt8) (c : UInt8), c ∉ p → Lib.indexByte (p ++ c :: r) c = p.length
  | [], r, c, _ => by simp [Lib.indexByte]
  | x :: p, r, c, h => by
    rw [List.mem_cons, not_or] at h
    have ih := ib_first p r c h.2
    simp only [List.cons_append, Lib.indexByte]
    rw [if_neg (by simpa using fun e => h.1 e.symm), ih, if_neg (by rw [beq_iff_eq]; omega)]
    simp
theorem mem_split (c : UInt8) : ∀ s : List UInt8, c ∈ s → ∃ p r, s = p ++ c :: r ∧ c ∉ p
  | [], h => by cases h
  | x :: t, h => by
    by_cases hx : x = c
    · exact ⟨[], t, by rw [hx]; rfl, by simp⟩
    · obtain ⟨p, r, e, hp⟩ := mem_split c t (by rcases List.mem_cons.1 h with e | e; exact absurd e.symm hx; exact e)
      exact ⟨x :: p, r, by rw [e]; rfl, by rw [List.mem_cons, not_or]; exact ⟨fun e => hx e.symm, hp⟩⟩
theorem split_lf : ∀ (n : Nat) (s : List UInt8), s.length ≤ n → Lib.splitB ⟨#[10]⟩ 0 (Lib.countB (B s) ⟨#[10]⟩) (B s) = (lf [] s).map B := by
  intro n
  induction n with
  | zero =>
    intro s h
    obtain rfl := List.length_eq_zero_iff.1 (Nat.le_zero.1 h)
    rfl
  | succ n ih =>
    intro s h
    by_cases hm : (10 : UInt8) ∈ s
    · obtain ⟨p, r, rfl, hp⟩ := mem_split 10 s hm
      rw [List.length_append, List.length_cons] at h
      have hc : Lib.countB (B (p ++ 10 :: r)) ⟨#[10]⟩ = Lib.countB (B r) ⟨#[10]⟩ + 1 := by
        show Lib.count (B (p ++ 10 :: r)).data.toList [10] = Lib.count (B r).data.toList [10] + 1
        rw [Lib.count_one, Lib.count_one, B_data, B_data, List.count_append, List.count_eq_zero.2 hp, List.count_cons_self]
        omega
      have hi : Lib.indexB (B (p ++ 10 :: r)) ⟨#[10]⟩ = (p.length : Int) := by
        show Lib.index (B (p ++ 10 :: r)).data.toList [10] = _
        rw [Lib.index_one, B_data, ib_first p r 10 hp]
      have e1 : (B (p ++ 10 :: r)).extract 0 (p.length + 0) = B p := by
        rw [Nat.add_zero, B_to, List.take_left']
        rfl
      have e2 : (B (p ++ 10 :: r)).extract (p.length + 1) (B (p ++ 10 :: r)).size = B r := by
        rw [B_from _ _ _ (B_size _), ← List.drop_drop, List.drop_left' rfl]
        rfl
      rw [lf_cut p [] r hp, List.map_cons, List.nil_append, hc, Lib.splitB, hi, if_neg (by rw [beq_iff_eq]; omega), Int.toNat_natCast, e1]
      congr 1
      rw [← ih r (by omega)]
      exact congrArg _ e2
    · have hc : Lib.countB (B s) ⟨#[10]⟩ = 0 := by
        show Lib.count (B s).data.toList [10] = 0
        rw [Lib.count_one, B_data]
        exact List.count_eq_zero.2 hm
      rw [hc, Lib.splitB_zero, lf_none s [] hm]
      rfl
/-- A text's lines. -/
def lns (s : List UInt8) : List (List UInt8) := lf [] s
theorem split_f (s : List UInt8) (h : s.length ≤ 1048576) : strings_Split.f (B s) ⟨#[10]⟩ = some ((lns s).map B) := by
  unfold strings_Split.f
  rw [if_pos ⟨by rw [B_size]; omega, by decide⟩, split_lf _ s (Nat.le_refl _)]
  rfl
theorem lf_len : ∀ (t cur : List UInt8), (lf cur t).length ≤ t.length + 1
  | [], _ => by simp [lf]
  | x :: t, cur => by
    rw [lf]
    split
    · have := lf_len t []
      simp only [List.length_cons]
      omega
    · have := lf_len t (cur ++ [x])
      simp only [List.length_cons]
      omega
theorem lf_size : ∀ (t cur : List UInt8), ∀ p ∈ lf cur t, p.length ≤ cur.length + t.length
  | [], cur, p, hp => by
    rw [lf, List.mem_singleton] at hp
    rw [hp]
    simp
  | x :: t, cur, p, hp => by
    rw [lf] at hp
    split at hp
    · rcases List.mem_cons.1 hp with rfl | hp
      · simp
      · have := lf_size t [] p hp
        simp at this ⊢
        omega
    · have := lf_size t (cur ++ [x]) p hp
      simp at this ⊢
      omega
theorem blk_snoc (c : List UInt8) (x : UInt8) : blk (c ++ [x]) = (blk c && (decide (x = 32) || decide (x = 9))) := by
  unfold blk
  rw [List.all_append]
  simp
/-- Is one of some lines, other than the last one (and the first one, unless it counts), of blanks alone? -/
def mid : Bool → List (List UInt8) → Bool
  | _, [] => false
  | _, [_] => false
  | b, x :: y :: r => (b && blk x) || mid true (y :: r)
/-- Has a text a line of blanks alone, other than its first and last? -/
def gp : Bool → List UInt8 → Bool
  | _, [] => false
  | b, x :: t => if x = 10 then b || gp true t else gp (b && (decide (x = 32) || decide (x = 9))) t
theorem mid_gp : ∀ (t cur : List UInt8) (b : Bool), mid b (lf cur t) = gp (b && blk cur) t
  | [], cur, b => rfl
  | x :: t, cur, b => by
    rw [lf, gp]
    by_cases h : x = 10
    · rw [if_pos h, if_pos h]
      have ih := mid_gp t [] true
      rw [show (true && blk []) = true from rfl] at ih
      rw [← ih]
      cases hl : lf [] t with
      | nil => exact absurd hl (lf_pos t [])
      | cons y r => rw [mid]
    · rw [if_neg h, if_neg h, mid_gp t _ b, blk_snoc, Bool.and_assoc]
theorem gp_lns (s : List UInt8) : mid true ((lns s).drop 1) = gp false s := by
  have h := mid_gp s [] false
  rw [Bool.false_and] at h
  rw [← h]
  unfold lns
  cases hl : lf [] s with
  | nil => exact absurd hl (lf_pos s [])
  | cons y r =>
    cases r with
    | nil => rfl
    | cons z r => rw [mid, Bool.false_and, Bool.false_or]; rfl
theorem dw_nil (p : UInt8 → Bool) : ∀ l : List UInt8, l.dropWhile p = [] ↔ ∀ x ∈ l, p x = true
  | [] => by simp
  | x :: t => by
    rw [List.dropWhile_cons]
    split
    · rename_i h
      rw [dw_nil p t, List.forall_mem_cons]
      exact ⟨fun e => ⟨h, e⟩, fun e => e.2⟩
    · rename_i h
      exact ⟨fun e => (by cases e), fun e => absurd (e x List.mem_cons_self) h⟩
theorem tw_mem (p : UInt8 → Bool) : ∀ (l : List UInt8) (x : UInt8), x ∈ l.takeWhile p → p x = true
  | [], x, h => by cases h
  | y :: t, x, h => by
    rw [List.takeWhile_cons] at h
    split at h
    · rename_i hy
      rcases List.mem_cons.1 h with rfl | h
      · exact hy
      · exact tw_mem p t x h
    · cases h
theorem trim_nil (p : List UInt8) : (Lib.trimS p [32, 9] = []) ↔ blk p = true := by
  have h : ∀ x : UInt8, ([32, 9] : List UInt8).contains x = (decide (x = 32) || decide (x = 9)) := by
    intro x
    have := (by decide +kernel : ∀ y : Fin 256, ([32, 9] : List UInt8).contains (UInt8.ofNat y.val) = (decide (UInt8.ofNat y.val = 32) || decide (UInt8.ofNat y.val = 9))) ⟨x.toNat, x.toNat_lt⟩
    rwa [show UInt8.ofNat x.toNat = x from UInt8.ofNat_toNat] at this
  have hd : ∀ l : List UInt8, Lib.trimLeftS l [32, 9] = [] ↔ blk l = true := by
    intro l
    unfold Lib.trimLeftS blk
    rw [List.all_eq_true]
    constructor
    · intro e x hx
      have := (dw_nil _ _).1 e x hx
      rw [← h x]
      exact this
    · intro e
      refine (dw_nil _ _).2 (fun x hx => ?_)
      rw [h x]
      exact e x hx
  have hr : blk (Lib.trimRightS p [32, 9]) = true ↔ blk p = true := by
    have e : Lib.trimRightS p [32, 9] = (Lib.trimLeftS p.reverse [32, 9]).reverse := rfl
    rw [e]
    have hrev : ∀ l : List UInt8, blk l.reverse = blk l := fun l => by unfold blk; rw [List.all_reverse]
    rw [hrev]
    constructor
    · intro h1
      rw [← hrev p]
      unfold blk at h1 ⊢
      rw [List.all_eq_true] at h1 ⊢
      intro x hx
      rw [← List.takeWhile_append_dropWhile (p := fun y => ([32, 9] : List UInt8).contains y) (l := p.reverse)] at hx
      rcases List.mem_append.1 hx with hx | hx
      · rw [← h x]
        exact tw_mem _ _ _ hx
      · exact h1 x hx
    · intro h1
      have : Lib.trimLeftS p.reverse [32, 9] = [] := (hd _).2 (by rw [hrev]; exact h1)
      rw [this]
      rfl
  unfold Lib.trimS
  rw [hd, hr]
/-- The title a text begins with, and how long it is. -/
def ttl : List UInt8 → List UInt8 × Nat
  | [] => ([], 0)
  | x :: t => if cls (x :: t) = 0 then ([], 0) else
      match t.drop (eachL (pTit (cls (x :: t))) t) with
      | [] => ([], 0)
      | y :: _ => if y = cls (x :: t) then (if gp false (t.take (eachL (pTit (cls (x :: t))) t)) = true then ([], 0) else (une (t.take (eachL (pTit (cls (x :: t))) t)), eachL (pTit (cls (x :: t))) t + 2)) else ([], 0)
end Go.Proofs.YtekifcbokdidlaaGreatDoor.Pure

namespace Go.Proofs.YtekifcbokdidlaaGreatDoor.PA
open Go.RowKit Go.Proofs.YtekifcbokdidlaaGreatDoor.Pl Go.Proofs.YtekifcbokdidlaaGreatDoorW.PrintWords Go.Proofs.YtekifcbokdidlaaGreatDoorW.PrintLast Go.Proofs.YtekifcbokdidlaaGreatDoorW.PrintMore Go.Proofs.YtekifcbokdidlaaGreatDoor.Pure
set_option linter.unusedVariables false

theorem pre_one (c : UInt8) (s : List UInt8) (w : World) : Calls Tryz.prog 44 #[.string (B s), .string ⟨#[c]⟩] w fun e w' => e = .returned (.bool (decide (s.head? = some c))) ∧ Drawn0 w w' := by
  refine strings_HasPrefix.calls (B s) ⟨#[c]⟩ _ w ?_
  unfold strings_HasPrefix.f
  rw [B_data, show (⟨#[c]⟩ : ByteArray).data.toList = [c] from rfl]
  congr 1
  cases s with
  | nil => rfl
  | cons x t =>
    by_cases hx : x = c
    · subst hx
      simp [Lib.hasPrefix, List.isPrefixOf]
    · simp [Lib.hasPrefix, List.isPrefixOf, hx]
      exact fun e => hx e.symm
theorem white_walk (s : List UInt8) (hs : s.length ≤ 1048576) (w : World) : Calls Tryz.prog 47 #[.string (B s)] w fun e w' => e = .returned (.int .i64 (wht s : Int)) ∧ Below w.heap.size w w' := by
  have hsz : (B s).size = s.length := B_size s
  have ht : strings_TrimLeft.f (B s) ⟨#[32, 9, 10]⟩ = some (B (Lib.trimLeftS s [32, 9, 10])) := by
    unfold strings_TrimLeft.f
    rw [if_pos ⟨by omega, by decide, by decide⟩, B_data]
    rfl
  have HT := Lib.hid (fun W => strings_TrimLeft.calls (B s) ⟨#[32, 9, 10]⟩ _ W ht)
  have hz2 : (B (Lib.trimLeftS s [32, 9, 10])).size = (Lib.trimLeftS s [32, 9, 10]).length := B_size _
  have HW := Lib.hid (wht_int s)
  have hl := trim_le s [32, 9, 10]
  clear ht
  go_enter Tryz.func47, Tryz.ntmps47
  go_wp2_with (first | (go_at_call 54; refine (HT.out _).mono ?_; rintro e w' ⟨rfl, hb⟩; have HB := Lib.hid hb; clear hb))
  go_ret
  exact ⟨congrArg (fun z => Ending.returned (.int .i64 z)) HW.out, HB.out⟩
set_option maxHeartbeats 4000000 in
set_option maxRecDepth 100000 in
theorem lab_walk (s : List UInt8) (hs : s.length ≤ 1048576) (w : World) :
    Calls Tryz.prog 26 #[.string (B s)] w fun e w' => e = .returned (.tuple #[.string (B (lab s).1), .int .i64 ((lab s).2 : Int)]) ∧ Below w.heap.size w w' := by
  have HP := Lib.hid (fun W => pre_one 91 s W)
  by_cases h91 : s.head? = some 91
  · rw [decide_eq_true h91] at HP
    obtain ⟨t, rfl⟩ : ∃ t, s = 91 :: t := by
      cases s with
      | nil => cases h91
      | cons x t => exact ⟨t, by rw [Option.some.inj h91]⟩
    rw [List.length_cons] at hs
    have HE := Lib.hid (fun W => each_lab (91 :: t) (by rw [List.length_cons]; omega) 1 (by simp) W)
    rw [show List.drop 1 ((91 : UInt8) :: t) = t from rfl, show ((1 : Nat) : Int) = 1 from rfl] at HE
    have hEl := eachL_le pLab t
    obtain ⟨E, hE⟩ : ∃ E, eachL pLab t = E := ⟨_, rfl⟩
    have hlab : lab (91 :: t) = match t.drop E with
      | [] => ([], 0)
      | y :: _ => if y = 91 ∨ 999 < E ∨ wht (t.take E) = E then ([], 0) else (t.take E, E + 2) := by subst hE; rfl
    rw [hE] at HE hEl
    have HW := Lib.hid (fun W => white_walk (t.take E) (by rw [List.length_take]; omega) W)
    obtain ⟨k, hk⟩ : ∃ k, 1 + E = k := ⟨_, rfl⟩
    rw [hk] at HE
    have hk1 : 1 ≤ k := by omega
    have hk2 : k ≤ 1048577 := by omega
    have hex : (B (91 :: t)).extract 1 k = B (t.take E) := by rw [B_extract, show k - 1 = E by omega]; rfl
    have hn : (B (91 :: t)).size = t.length + 1 := B_size _
    have hget : ∀ y u, t.drop E = y :: u → ∃ h : k < (B (91 :: t)).size, (B (91 :: t))[k]'h = y := by
      intro y u e
      have hlt : E < t.length := by
        rcases Nat.lt_or_ge E t.length with h | h
        · exact h
        · rw [List.drop_eq_nil_of_le h] at e; cases e
      refine ⟨by omega, ?_⟩
      have e2 : (91 :: t).drop k = y :: u := by rw [← hk, Nat.add_comm, List.drop_succ_cons]; exact e
      have hk3 : k < (91 :: t).length := by rw [List.length_cons]; omega
      rw [List.drop_eq_getElem_cons hk3] at e2
      exact (List.getElem_toArray hk3).trans (List.cons.inj e2).1
    generalize B (91 :: t) = S at *
    cases ht : t.drop E with
    | nil =>
      rw [ht] at hlab
      have HL := Lib.hid hlab
      have hEt : t.length ≤ E := List.drop_eq_nil_iff.1 ht
      obtain rfl : k = t.length + 1 := by omega
      generalize t.length + 1 = n at *
      clear hlab hget ht hex hE h91 HW
      go_enter Tryz.func26, Tryz.ntmps26
      go_wp2_with fail
      refine (HP.out _).mono ?_
      rintro e w1 ⟨rfl, hd⟩
      have HB1 := Lib.hid hd.below
      clear hd
      go_wp2_with fail
      with_reducible refine (HE.out _).mono ?_
      rintro e w2 ⟨rfl, hb2⟩
      have HB2 := Lib.hid (HB1.out.trans (hb2.mono HB1.out.size))
      clear hb2
      go_wp2
      go_ret2
      rw [HL.out]
      exact ⟨rfl, HB2.out⟩
    | cons y u =>
      obtain ⟨hks, hi⟩ := hget y u ht
      rw [ht] at hlab
      simp only at hlab
      have hkn : k < t.length + 1 := by omega
      have hkn2 : (1 : Int) ≤ (k : Int) := by omega
      have hkn3 : (k : Int) ≤ (t.length : Int) + 1 := by omega
      have hkn4 : k ≤ t.length + 1 := by omega
      have q1 : ((k : Int) == ((t.length + 1 : Nat) : Int)) = false := beq_eq_false_iff_ne.2 (by omega)
      have q1b : ((k : Int) == ((t.length : Int) + 1)) = false := beq_eq_false_iff_ne.2 (by omega)
      have e91 : ((y.toNat : Int) = 91) ↔ y = 91 := u8_eq y 91 (by omega)
      by_cases h1 : y = 91
      · rw [if_pos (.inl h1)] at hlab
        have HL := Lib.hid hlab
        have q2 : ((y.toNat : Int) == 91) = true := beq_iff_eq.2 (e91.2 h1)
        clear hlab hget ht hex hE h91 HW e91 h1
        go_enter Tryz.func26, Tryz.ntmps26
        go_wp2_with fail
        refine (HP.out _).mono ?_
        rintro e w1 ⟨rfl, hd⟩
        have HB1 := Lib.hid hd.below
        clear hd
        go_wp2_with fail
        with_reducible refine (HE.out _).mono ?_
        rintro e w2 ⟨rfl, hb2⟩
        have HB2 := Lib.hid (HB1.out.trans (hb2.mono HB1.out.size))
        clear hb2
        go_wp2
        go_ret2
        rw [HL.out]
        exact ⟨rfl, HB2.out⟩
      · have q2 : ((y.toNat : Int) == 91) = false := beq_eq_false_iff_ne.2 (fun e => h1 (e91.1 e))
        by_cases h2 : 999 < E
        · rw [if_pos (.inr (.inl h2))] at hlab
          have HL := Lib.hid hlab
          have q3 : decide ((999 : Int) < (k : Int) - 1) = true := decide_eq_true (by omega)
          clear hlab hget ht hex hE h91 HW e91 h1
          go_enter Tryz.func26, Tryz.ntmps26
          go_wp2_with fail
          refine (HP.out _).mono ?_
          rintro e w1 ⟨rfl, hd⟩
          have HB1 := Lib.hid hd.below
          clear hd
          go_wp2_with fail
          with_reducible refine (HE.out _).mono ?_
          rintro e w2 ⟨rfl, hb2⟩
          have HB2 := Lib.hid (HB1.out.trans (hb2.mono HB1.out.size))
          clear hb2
          go_wp2
          go_ret2
          rw [HL.out]
          exact ⟨rfl, HB2.out⟩
        · have q3 : decide ((999 : Int) < (k : Int) - 1) = false := decide_eq_false (by omega)
          by_cases h3 : wht (t.take E) = E
          · rw [if_pos (.inr (.inr h3))] at hlab
            have HL := Lib.hid hlab
            have q4 : ((wht (t.take E) : Int) == (k : Int) - 1) = true := beq_iff_eq.2 (by omega)
            clear hlab hget ht hE h91 e91 h1 h3
            go_enter Tryz.func26, Tryz.ntmps26
            go_wp2_with fail
            refine (HP.out _).mono ?_
            rintro e w1 ⟨rfl, hd⟩
            have HB1 := Lib.hid hd.below
            clear hd
            go_wp2_with fail
            with_reducible refine (HE.out _).mono ?_
            rintro e w2 ⟨rfl, hb2⟩
            have HB2 := Lib.hid (HB1.out.trans (hb2.mono HB1.out.size))
            clear hb2
            go_wp2_with fail
            with_reducible refine (HW.out _).mono ?_
            rintro e w3 ⟨rfl, hb3⟩
            have HB3 := Lib.hid (HB2.out.trans (hb3.mono HB2.out.size))
            clear hb3
            go_wp2
            go_ret2
            rw [HL.out]
            exact ⟨rfl, HB3.out⟩
          · rw [if_neg (by rintro (h | h | h); exact h1 h; exact h2 h; exact h3 h)] at hlab
            have HL := Lib.hid hlab
            have q4 : ((wht (t.take E) : Int) == (k : Int) - 1) = false := beq_eq_false_iff_ne.2 (by omega)
            have HK := Lib.hid (show ((k : Int) + 1) = ((E + 2 : Nat) : Int) by omega)
            clear hlab hget ht hE h91 e91 h1 h3
            go_enter Tryz.func26, Tryz.ntmps26
            go_wp2_with fail
            refine (HP.out _).mono ?_
            rintro e w1 ⟨rfl, hd⟩
            have HB1 := Lib.hid hd.below
            clear hd
            go_wp2_with fail
            with_reducible refine (HE.out _).mono ?_
            rintro e w2 ⟨rfl, hb2⟩
            have HB2 := Lib.hid (HB1.out.trans (hb2.mono HB1.out.size))
            clear hb2
            go_wp2_with fail
            with_reducible refine (HW.out _).mono ?_
            rintro e w3 ⟨rfl, hb3⟩
            have HB3 := Lib.hid (HB2.out.trans (hb3.mono HB2.out.size))
            clear hb3
            go_wp2
            go_ret2
            rw [HL.out]
            exact ⟨by first | rfl | (rw [HK.out]; rfl) | (rw [← HK.out]; rfl), HB3.out⟩
  · rw [decide_eq_false h91] at HP
    have hrd : lab s = ([], 0) := by
      cases s with
      | nil => rfl
      | cons x t => rw [lab, if_neg (fun e => h91 (by rw [e]; rfl))]
    rw [hrd]
    clear hrd h91
    go_enter Tryz.func26, Tryz.ntmps26
    go_wp2_with fail
    refine (HP.out _).mono ?_
    rintro e w1 ⟨rfl, hd⟩
    have HB1 := Lib.hid hd.below
    clear hd
    go_wp2
    go_ret2
    exact ⟨rfl, HB1.out⟩
set_option maxHeartbeats 4000000 in
set_option maxRecDepth 100000 in
theorem ang_walk (x : UInt8) (t : List UInt8) (hs : t.length ≤ 1048575) (w : World) (hLd : Laid w) :
    Calls Tryz.prog 50 #[.string (B (x :: t))] w fun e w' => e = .returned (.tuple #[.string (B (ang t).1), .int .i64 ((ang t).2.1 : Int), .bool (ang t).2.2]) ∧ Below w.heap.size w w' := by
  have HLd := Lib.hid hLd
  clear hLd
  have HE := Lib.hid (fun W => each_ang (x :: t) (by rw [List.length_cons]; omega) 1 (by simp) W)
  rw [show List.drop 1 (x :: t) = t from rfl, show ((1 : Nat) : Int) = 1 from rfl] at HE
  have hEl := eachL_le pAng t
  obtain ⟨E, hE⟩ : ∃ E, eachL pAng t = E := ⟨_, rfl⟩
  have hlab : ang t = match t.drop E with
    | [] => ([], 0, false)
    | y :: _ => if y = 62 then (une (t.take E), E + 2, true) else ([], 0, false) := by unfold ang; subst hE; rfl
  rw [hE] at HE hEl
  have HW := Lib.hid (fun W => unesc_walk (t.take E) (by rw [List.length_take]; omega) W)
  obtain ⟨k, hk⟩ : ∃ k, 1 + E = k := ⟨_, rfl⟩
  rw [hk] at HE
  have hk1 : 1 ≤ k := by omega
  have hk2 : k ≤ 1048577 := by omega
  have hex : (B (x :: t)).extract 1 k = B (t.take E) := by rw [B_extract, show k - 1 = E by omega]; rfl
  have hn : (B (x :: t)).size = t.length + 1 := B_size _
  have hget : ∀ y u, t.drop E = y :: u → ∃ h : k < (B (x :: t)).size, (B (x :: t))[k]'h = y := by
    intro y u e
    have hlt : E < t.length := by
      rcases Nat.lt_or_ge E t.length with h | h
      · exact h
      · rw [List.drop_eq_nil_of_le h] at e; cases e
    refine ⟨by omega, ?_⟩
    have e2 : (x :: t).drop k = y :: u := by rw [← hk, Nat.add_comm, List.drop_succ_cons]; exact e
    have hk3 : k < (x :: t).length := by rw [List.length_cons]; omega
    rw [List.drop_eq_getElem_cons hk3] at e2
    exact (List.getElem_toArray hk3).trans (List.cons.inj e2).1
  generalize B (x :: t) = S at *
  cases ht : t.drop E with
  | nil =>
    rw [ht] at hlab
    have HL := Lib.hid hlab
    have hEt : t.length ≤ E := List.drop_eq_nil_iff.1 ht
    obtain rfl : k = t.length + 1 := by omega
    generalize t.length + 1 = n at *
    clear hlab hget ht hex hE HW
    go_enter Tryz.func50, Tryz.ntmps50
    go_wp2_with fail
    with_reducible refine (HE.out _).mono ?_
    rintro e w2 ⟨rfl, hb2⟩
    have HB2 := Lib.hid hb2
    clear hb2
    go_wp2
    go_ret3
    rw [HL.out]
    exact ⟨rfl, HB2.out⟩
  | cons y u =>
    obtain ⟨hks, hi⟩ := hget y u ht
    rw [ht] at hlab
    simp only at hlab
    have hkn : k < t.length + 1 := by omega
    have hkn2 : (1 : Int) ≤ (k : Int) := by omega
    have hkn3 : (k : Int) ≤ (t.length : Int) + 1 := by omega
    have hkn4 : k ≤ t.length + 1 := by omega
    have q1 : ((k : Int) == ((t.length + 1 : Nat) : Int)) = false := beq_eq_false_iff_ne.2 (by omega)
    have q1b : ((k : Int) == ((t.length : Int) + 1)) = false := beq_eq_false_iff_ne.2 (by omega)
    have e62 : ((y.toNat : Int) = 62) ↔ y = 62 := u8_eq y 62 (by omega)
    by_cases h1 : y = 62
    · rw [if_pos h1] at hlab
      have HL := Lib.hid hlab
      have q2 : ((y.toNat : Int) == 62) = true := beq_iff_eq.2 (e62.2 h1)
      have q2b : ((y.toNat : Int) != 62) = false := by rw [bne, q2]; rfl
      have HK := Lib.hid (show ((k : Int) + 1) = ((E + 2 : Nat) : Int) by omega)
      clear hlab hget ht hE e62 h1
      go_enter Tryz.func50, Tryz.ntmps50
      go_wp2_with fail
      with_reducible refine (HE.out _).mono ?_
      rintro e w2 ⟨rfl, hb2⟩
      have HB2 := Lib.hid hb2
      clear hb2
      go_wp2_with fail
      with_reducible refine (HW.out _ (HLd.out.go HB2.out)).mono ?_
      rintro e w3 ⟨rfl, hb3⟩
      have HB3 := Lib.hid (HB2.out.trans (hb3.mono HB2.out.size))
      clear hb3
      go_wp2
      go_ret3
      rw [HL.out]
      exact ⟨by first | rfl | (rw [HK.out]; rfl), HB3.out⟩
    · rw [if_neg h1] at hlab
      have HL := Lib.hid hlab
      have q2 : ((y.toNat : Int) == 62) = false := beq_eq_false_iff_ne.2 (fun e => h1 (e62.1 e))
      have q2b : ((y.toNat : Int) != 62) = true := by rw [bne, q2]; rfl
      clear hlab hget ht hE e62 h1
      go_enter Tryz.func50, Tryz.ntmps50
      go_wp2_with fail
      with_reducible refine (HE.out _).mono ?_
      rintro e w2 ⟨rfl, hb2⟩
      have HB2 := Lib.hid hb2
      clear hb2
      go_wp2
      go_ret3
      rw [HL.out]
      exact ⟨rfl, HB2.out⟩
theorem dstL_le : ∀ (l : List UInt8) (o : Nat) (d : Bool), (dstL l o d).1 ≤ l.length ∧ (dstL l o d).2.1 ≤ o + l.length
  | [], o, d => ⟨Nat.le_refl _, Nat.le_refl _⟩
  | [x], o, d => by
    have := dsto_le o x o (Nat.le_refl _)
    unfold dstL
    split
    · exact ⟨Nat.zero_le _, Nat.le_add_right _ _⟩
    · exact ⟨Nat.le_refl _, this⟩
  | x :: y :: t, o, d => by
    have h1 := dstL_le t o d
    have h2 := dstL_le (y :: t) (dsto o x) (dstd o d x)
    have h3 := dsto_le o x o (Nat.le_refl _)
    unfold dstL
    simp only [List.length_cons] at h2 ⊢
    split
    · exact ⟨by show _ + 2 ≤ _; omega, by show (dstL t o d).2.1 ≤ _; omega⟩
    · split
      · exact ⟨Nat.zero_le _, Nat.le_add_right _ _⟩
      · exact ⟨by show _ + 1 ≤ _; omega, by show (dstL (y :: t) _ _).2.1 ≤ _; omega⟩
end Go.Proofs.YtekifcbokdidlaaGreatDoor.PA

namespace Go.Proofs.YtekifcbokdidlaaGreatDoor.PA
open Go.RowKit Go.Proofs.YtekifcbokdidlaaGreatDoor.Pl Go.Proofs.YtekifcbokdidlaaGreatDoorW.PrintWords Go.Proofs.YtekifcbokdidlaaGreatDoorW.PrintLast Go.Proofs.YtekifcbokdidlaaGreatDoorW.PrintMore Go.Proofs.YtekifcbokdidlaaGreatDoor.Pure
set_option linter.unusedVariables false

theorem al2_old (w : World) (o : Obj) (k : Nat) (h : k < w.heap.size) : (w.alloc o).heap[k]? = w.heap[k]? := ((Below.refl w.heap.size w).alloc (Nat.le_refl _) o).block k h
theorem al2_size (w : World) (o : Obj) : (w.alloc o).heap.size = w.heap.size + 1 := Array.size_push _
theorem al_two (w : World) (a b : Obj) : ((w.alloc a).alloc b).heap[w.heap.size]? = some a ∧ ((w.alloc a).alloc b).heap[w.heap.size + 1]? = some b ∧ Below w.heap.size w ((w.alloc a).alloc b) := by
  refine ⟨?_, ?_, ?_⟩
  · rw [al2_old _ _ _ (by rw [al2_size]; omega)]; exact heap_alloc_new w a
  · rw [← al2_size w a]; exact heap_alloc_new _ b
  · exact ((Below.refl _ w).alloc (Nat.le_refl _) a).alloc (by rw [al2_size]; omega) b
set_option maxHeartbeats 4000000 in
set_option maxRecDepth 100000 in
theorem dst_walk (s : List UInt8) (hs : s.length ≤ 1048576) (w : World) (hLd : Laid w) :
    Calls Tryz.prog 29 #[.string (B s)] w fun e w' => e = .returned (.tuple #[.string (B (dst s).1), .int .i64 ((dst s).2.1 : Int), .bool (dst s).2.2]) ∧ Below w.heap.size w w' := by
  have HP := Lib.hid (fun W => pre_one 60 s W)
  by_cases h60 : s.head? = some 60
  · rw [decide_eq_true h60] at HP
    obtain ⟨t, rfl⟩ : ∃ t, s = 60 :: t := by
      cases s with
      | nil => cases h60
      | cons x t => exact ⟨t, by rw [Option.some.inj h60]⟩
    rw [List.length_cons] at hs
    have HA := Lib.hid (ang_walk 60 t (by omega))
    have HD := Lib.hid (show dst (60 :: t) = ang t by unfold dst; exact if_pos rfl)
    have HLd := Lib.hid hLd
    generalize B (60 :: t) = S at *
    clear h60 hLd
    go_enter Tryz.func29, Tryz.ntmps29
    go_wp2_with fail
    refine (HP.out _).mono ?_
    rintro e w1 ⟨rfl, hd⟩
    have HB1 := Lib.hid hd.below
    clear hd
    go_wp2_with fail
    with_reducible refine (HA.out _ (HLd.out.go HB1.out)).mono ?_
    rintro e w2 ⟨rfl, hb2⟩
    have HB2 := Lib.hid (HB1.out.trans (hb2.mono HB1.out.size))
    clear hb2
    go_wp2
    go_ret3
    rw [HD.out]
    exact ⟨rfl, HB2.out⟩
  · rw [decide_eq_false h60] at HP
    have hD : dst s = if (dstL s 0 false).1 = 0 ∨ 0 < (dstL s 0 false).2.1 ∨ (dstL s 0 false).2.2 = true then ([], 0, false) else (une (s.take (dstL s 0 false).1), (dstL s 0 false).1, true) := by unfold dst; rw [if_neg h60]
    have HLd := Lib.hid hLd
    have hle := dstL_le s 0 false
    have HE := Lib.hid (each_dst s (by omega))
    have HW := Lib.hid (fun W => unesc_walk (s.take (dstL s 0 false).1) (by rw [List.length_take]; omega) W)
    have hex : (B s).extract 0 (dstL s 0 false).1 = B (s.take (dstL s 0 false).1) := B_to s _
    have hn : (B s).size = s.length := B_size _
    obtain ⟨k, hk⟩ : ∃ x, (dstL s 0 false).1 = x := ⟨_, rfl⟩
    obtain ⟨o, ho⟩ : ∃ x, (dstL s 0 false).2.1 = x := ⟨_, rfl⟩
    obtain ⟨d, hd⟩ : ∃ x, (dstL s 0 false).2.2 = x := ⟨_, rfl⟩
    rw [hk, ho, hd] at HE hD
    rw [hk] at HW hex
    rw [hk, ho] at hle
    obtain ⟨hle1, hle2⟩ := hle
    clear hk ho hd h60 hLd
    generalize B (s.take k) = T at *
    generalize B s = S at *
    go_enter Tryz.func29, Tryz.ntmps29
    go_wp2_with fail
    refine (HP.out _).mono ?_
    rintro e w1 ⟨rfl, hd⟩
    have HB1 := Lib.hid hd.below
    clear hd
    go_wp2_with fail
    obtain ⟨h1, h2, h3⟩ := al_two w1 (.cells #[.int .i64 0] 3 (0, 0)) (.cells #[.bool false] 4 (0, 0))
    obtain ⟨w2, hw2⟩ : ∃ w2, w2 = (w1.alloc (.cells #[.int .i64 0] 3 (0, 0))).alloc (.cells #[.bool false] 4 (0, 0)) := ⟨_, rfl⟩
    rw [← hw2] at h1 h2 h3
    rw [show ((w1.alloc (Obj.cells #[Value.int IntKind.i64 0] 3)).alloc (Obj.cells #[Value.bool false] 4)) = w2 from hw2.symm]
    clear hw2
    have HB2 := Lib.hid (HB1.out.trans (h3.mono HB1.out.size))
    have hsz := HB1.out.size
    clear h3
    obtain ⟨b, hb⟩ : ∃ b, w1.heap.size = b := ⟨_, rfl⟩
    rw [hb] at h1 h2 hsz ⊢
    clear hb
    have hbx : Box2 b 0 false w2 := ⟨h1, h2⟩
    with_reducible refine (HE.out b w2 hbx).mono ?_
    rintro e w3 ⟨rfl, hx3, hb3⟩
    have HB3 := Lib.hid (HB2.out.trans (hb3.mono hsz))
    have c1 := cell_of_one hx3.1
    have c2 := cell_of_one hx3.2
    clear h1 h2 hx3 hb3 HB2 HB1 hsz HE HP
    by_cases hk0 : k = 0
    · subst hk0
      rw [if_pos (.inl rfl)] at hD
      have HD := Lib.hid hD
      clear hD
      go_wp2_with fail
      go_wp2
      go_ret3
      rw [HD.out]
      exact ⟨rfl, HB3.out⟩
    · have q1 : ((k : Int) == 0) = false := beq_eq_false_iff_ne.2 (by omega)
      by_cases ho0 : 0 < o
      · have q2 : decide ((0 : Int) < (o : Int)) = true := decide_eq_true (by omega)
        rw [if_pos (.inr (.inl ho0))] at hD
        have HD := Lib.hid hD
        clear hD
        go_wp2
        go_ret3
        rw [HD.out]
        exact ⟨rfl, HB3.out⟩
      · have q2 : decide ((0 : Int) < (o : Int)) = false := decide_eq_false (by omega)
        cases d with
        | true =>
          rw [if_pos (.inr (.inr rfl))] at hD
          have HD := Lib.hid hD
          clear hD
          go_wp2
          go_ret3
          rw [HD.out]
          exact ⟨rfl, HB3.out⟩
        | false =>
          rw [if_neg (by rintro (h | h | h); exact hk0 h; exact ho0 h; cases h)] at hD
          have HD := Lib.hid hD
          have hks : k ≤ s.length := hle1
          clear hD
          go_wp2_with fail
          with_reducible refine (HW.out _ (HLd.out.go HB3.out)).mono ?_
          rintro e w4 ⟨rfl, hb4⟩
          have HB4 := Lib.hid (HB3.out.trans (hb4.mono HB3.out.size))
          clear hb4
          go_wp2
          go_ret3
          rw [HD.out]
          exact ⟨rfl, HB4.out⟩
end Go.Proofs.YtekifcbokdidlaaGreatDoor.PA

namespace Go.Proofs.YtekifcbokdidlaaGreatDoor.PA
open Go.RowKit Go.Proofs.YtekifcbokdidlaaGreatDoorW.PrintWords Go.Proofs.YtekifcbokdidlaaGreatDoorW.PrintLast Go.Proofs.YtekifcbokdidlaaGreatDoorW.PrintMore
attribute [local go_sem] max2_int min2_int max_two min_two max_three min_three max_four min_four   -- for this text's walks alone
set_option linter.unusedVariables false
set_option linter.unusedSimpArgs false







/-! ### link_gap: function 80 -/
def link_gap.l0 : Nat → List ByteArray → Int → Option (Bool)
  | 0, _, _ => none
  | k + 1, x3, x4 => if x4 < (wrap64 ((x3.length : Int) - 1)) then (if 0 ≤ x4 then (if x4 < (x3.length : Int) then ((strings_Trim.f (rdOf ByteArray.empty x3 x4) (⟨#[32, 9]⟩ : ByteArray)).bind fun t193 => (if t193.toList = ([] : List UInt8) then (some true) else (link_gap.l0 k x3 (wrap64 (x4 + 1))))) else (none)) else (none)) else (some false)
def link_gap.f (k : Nat) (a0 : ByteArray) : Option (Bool) := (strings_Split.f a0 (⟨#[10]⟩ : ByteArray)).bind fun t189 => (link_gap.l0 k t189 1)
set_option maxHeartbeats 8000000 in
set_option maxRecDepth 100000 in
theorem link_gap.calls (k : Nat) (a0 : ByteArray) (r : Bool) (w : World) (hLd : Laid w) (h : link_gap.f k a0 = some r) :
    Calls Tryz.prog 80 #[.string a0] w fun e w' => e = .returned (.bool r) ∧ Below w.heap.size w w' := by
  have HB := Aside0.mk (Below.refl w.heap.size w)
  have H : ((strings_Split.f a0 (⟨#[10]⟩ : ByteArray)).bind fun t189 => (link_gap.l0 k t189 1)) = some r := h
  clear h
  replace H := Option.bind_eq_some_iff.mp H
  obtain ⟨t189, A20, H⟩ := H
  replace H : (link_gap.l0 k t189 1) = some r := H
  have A2 := Aside0.mk A20
  clear A20
  have H' := Aside0.mk H
  clear H
  go_enter Tryz.func80, Tryz.ntmps80
  go_wp2_with (first | ((with_reducible refine gate_callee (f := 100) rfl ?_); refine goesL_ (some 6) rfl rfl Tryz.func100 (by kernel_rfl) rfl #[.string a0, .string (⟨#[10]⟩ : ByteArray)] rfl (by (try simp only [List.map_toArray, List.map_cons, List.map_nil]); first | done | rfl | (simp only [List.length_drop, List.length_take]; rfl)) ?_; (with_reducible refine (strings_Split.calls a0 (⟨#[10]⟩ : ByteArray) t189 _ ?side1 A2.out).mono ?_); (case side1 => exact Laid.go hLd (by repeat (first | (with_reducible first | exact HB.out | apply below_alloc | apply pw_below_drewN | apply below_drew1) | exact HB.out))); rintro e w3 ⟨v190, rfl, ho0, hb⟩; refine ⟨_, rfl, ?_⟩; have n0_ := Aside0.mk (Kd.R_lower ho0 (below_size (by repeat (first | (with_reducible first | exact HB.out | apply below_alloc | apply pw_below_drewN | apply below_drew1) | exact HB.out)))); have n1_ := Aside0.mk (below_step (by repeat (first | (with_reducible first | exact HB.out | apply below_alloc | apply pw_below_drewN | apply below_drew1) | exact HB.out)) hb); clear HB; have HO191 := n0_; have HB := n1_; clear n0_ n1_; (try clear hb); (try clear hb2); (try clear hk); (try clear hi); (try clear ho0)))
  go_loopg [4] k (fun kq v4 w' => ∃ (x4_1 : Int), v4 = .int .i64 x4_1 ∧ Aside0 (link_gap.l0 kq t189 x4_1 = some r) ∧ Aside0 (kq ≤ k) ∧ Aside0 (Kd.R Kd.string 9 w' w.heap.size (fun _ => True) v190 t189) ∧ Aside0 (Below w.heap.size w w'))
  case atStart => exact ⟨(1), (by first | rfl | (simp; done) | (simp [*]; done)), H', ⟨Nat.le_refl _⟩, ⟨by (with_reducible repeat (first | apply Kd.R_alloc | apply Kd.R_drewN | apply Kd.R_drew)); exact HO191.out⟩, ⟨by repeat (first | (with_reducible first | exact HB.out | apply below_alloc | apply pw_below_drewN | apply below_drew1) | exact HB.out)⟩⟩
  case round =>
    clear H'
    try clear c1
    try clear p2
    obtain ⟨x4_1, rfl, HA, HK1, HO_3, HB⟩ := hrel
    cases gk with
    | zero => exact absurd HA.out (by simp [link_gap.l0])
    | succ k1 =>
      have H := HA.out
      clear HA
      simp only [link_gap.l0] at H
      by_cases c4 : x4_1 < (wrap64 ((t189.length : Int) - 1))
      · rw [if_pos c4] at H
        have c4b0 : decide (x4_1 < (wrap64 ((t189.length : Int) - 1))) = true := decide_eq_true c4
        clear c4
        by_cases c5 : 0 ≤ x4_1
        · rw [if_pos c5] at H
          have c5b0 : decide (0 ≤ x4_1) = true := decide_eq_true c5
          clear c5
          by_cases c6 : x4_1 < (t189.length : Int)
          · rw [if_pos c6] at H
            have c6b0 : decide (x4_1 < (t189.length : Int)) = true := decide_eq_true c6
            clear c6
            replace H := Option.bind_eq_some_iff.mp H
            obtain ⟨t193, A70, H⟩ := H
            replace H : (if t193.toList = ([] : List UInt8) then (some true) else (link_gap.l0 k1 t189 (wrap64 (x4_1 + 1)))) = some r := H
            have A7 := Aside0.mk A70
            clear A70
            by_cases c8 : t193.toList = ([] : List UInt8)
            · rw [if_pos c8] at H
              have c8b0 : (t193.toList == ([] : List UInt8)) = true := beq_iff_eq.mpr c8
              have c8b1 : (t193.toList != ([] : List UInt8)) = false := bne_eq_false_iff_eq.mpr c8
              clear c8
              obtain rfl := Option.some.inj H
              obtain ⟨Ao9, co9, eo9⟩ := Kd.R_slice HO_3.out
              subst eo9
              have p192 : 0 ≤ (x4_1 : Int) := of_decide_eq_true (by first | (with_reducible assumption) | assumption)
              have q192 : x4_1 < (t189.length : Int) := of_decide_eq_true (by first | (with_reducible assumption) | assumption)
              obtain ⟨ad192, e192, hx192_0⟩ := Kd.at_string (Kd.R_reads' HO_3.out).2.2 x4_1 p192 q192
              cases e192
              replace p192 := eq_true p192
              replace q192 := eq_true q192
              go_wp2_with (first | ((with_reducible refine gate_callee (f := 101) rfl ?_); refine goesL_ (some 18) rfl rfl Tryz.func101 (by kernel_rfl) rfl #[.string (rdOf ByteArray.empty t189 x4_1), .string (⟨#[32, 9]⟩ : ByteArray)] rfl (by (try simp only [List.map_toArray, List.map_cons, List.map_nil]); first | done | rfl | (simp only [List.length_drop, List.length_take]; rfl)) ?_; (with_reducible refine (strings_Trim.calls (rdOf ByteArray.empty t189 x4_1) (⟨#[32, 9]⟩ : ByteArray) t193 _ A7.out).mono ?_); rintro e w10 ⟨rfl, hb⟩; refine ⟨_, rfl, ?_⟩; have n0_ := Aside0.mk (Kd.R_below (by (with_reducible repeat (first | apply Kd.R_alloc | apply Kd.R_drewN | apply Kd.R_drew)); exact HO_3.out) hb); have n1_ := Aside0.mk (below_step (by repeat (first | (with_reducible first | exact HB.out | apply below_alloc | apply pw_below_drewN | apply below_drew1) | exact HB.out)) hb); clear HO_3; clear HB; have HO_3 := n0_; have HB := n1_; clear n0_ n1_; (try clear hb); (try clear hb2); (try clear hk); (try clear hi)))
              go_ret
              exact ⟨by first | rfl | exact retNe _ | (simp [errW_none, errW_some] <;> rfl) | (simp [*, errW_none, errW_some] <;> rfl), by repeat (first | (with_reducible first | exact HB.out | apply below_alloc | apply pw_below_drewN | apply below_drew1) | exact HB.out)⟩
            · rw [if_neg c8] at H
              have c8b0 : (t193.toList == ([] : List UInt8)) = false := beq_eq_false_iff_ne.mpr c8
              have c8b1 : (t193.toList != ([] : List UInt8)) = true := bne_iff_ne.mpr c8
              have H' := Aside0.mk H
              clear H
              obtain ⟨Ao11, co11, eo11⟩ := Kd.R_slice HO_3.out
              subst eo11
              have p192 : 0 ≤ (x4_1 : Int) := of_decide_eq_true (by first | (with_reducible assumption) | assumption)
              have q192 : x4_1 < (t189.length : Int) := of_decide_eq_true (by first | (with_reducible assumption) | assumption)
              obtain ⟨ad192, e192, hx192_0⟩ := Kd.at_string (Kd.R_reads' HO_3.out).2.2 x4_1 p192 q192
              cases e192
              replace p192 := eq_true p192
              replace q192 := eq_true q192
              go_wp2_with (first | ((with_reducible refine gate_callee (f := 101) rfl ?_); refine goesL_ (some 18) rfl rfl Tryz.func101 (by kernel_rfl) rfl #[.string (rdOf ByteArray.empty t189 x4_1), .string (⟨#[32, 9]⟩ : ByteArray)] rfl (by (try simp only [List.map_toArray, List.map_cons, List.map_nil]); first | done | rfl | (simp only [List.length_drop, List.length_take]; rfl)) ?_; (with_reducible refine (strings_Trim.calls (rdOf ByteArray.empty t189 x4_1) (⟨#[32, 9]⟩ : ByteArray) t193 _ A7.out).mono ?_); rintro e w12 ⟨rfl, hb⟩; refine ⟨_, rfl, ?_⟩; have n0_ := Aside0.mk (Kd.R_below (by (with_reducible repeat (first | apply Kd.R_alloc | apply Kd.R_drewN | apply Kd.R_drew)); exact HO_3.out) hb); have n1_ := Aside0.mk (below_step (by repeat (first | (with_reducible first | exact HB.out | apply below_alloc | apply pw_below_drewN | apply below_drew1) | exact HB.out)) hb); clear HO_3; clear HB; have HO_3 := n0_; have HB := n1_; clear n0_ n1_; (try clear hb); (try clear hb2); (try clear hk); (try clear hi)))
              go_roundg k1
              case measure => have := HK1.out; omega
              case rel => exact ⟨(wrap64 (x4_1 + 1)), (by first | rfl | (simp; done) | (simp [*]; done)), H', ⟨by have := HK1.out; omega⟩, ⟨by (with_reducible repeat (first | apply Kd.R_alloc | apply Kd.R_drewN | apply Kd.R_drew)); exact HO_3.out⟩, ⟨by repeat (first | (with_reducible first | exact HB.out | apply below_alloc | apply pw_below_drewN | apply below_drew1) | exact HB.out)⟩⟩
          · rw [if_neg c6] at H
            exact absurd H (by simp)
        · rw [if_neg c5] at H
          exact absurd H (by simp)
      · rw [if_neg c4] at H
        have c4b0 : decide (x4_1 < (wrap64 ((t189.length : Int) - 1))) = false := decide_eq_false c4
        clear c4
        obtain rfl := Option.some.inj H
        obtain ⟨Ao13, co13, eo13⟩ := Kd.R_slice HO_3.out
        subst eo13
        go_wp2
        go_ret
        exact ⟨by first | rfl | exact retNe _ | (simp [errW_none, errW_some] <;> rfl) | (simp [*, errW_none, errW_some] <;> rfl), by repeat (first | (with_reducible first | exact HB.out | apply below_alloc | apply pw_below_drewN | apply below_drew1) | exact HB.out)⟩







end Go.Proofs.YtekifcbokdidlaaGreatDoor.PA

namespace Go.Proofs.YtekifcbokdidlaaGreatDoor.PA
open Go.RowKit Go.Proofs.YtekifcbokdidlaaGreatDoor.Pl Go.Proofs.YtekifcbokdidlaaGreatDoorW.PrintWords Go.Proofs.YtekifcbokdidlaaGreatDoorW.PrintLast Go.Proofs.YtekifcbokdidlaaGreatDoorW.PrintMore Go.Proofs.YtekifcbokdidlaaGreatDoor.Pure
set_option linter.unusedVariables false

theorem gap_l (s : List UInt8) (hs : s.length ≤ 1048576) : ∀ (d i : Nat), 1 ≤ i → i + d = (lns s).length → Ev (fun k => link_gap.l0 k ((lns s).map B) (i : Int)) (mid true ((lns s).drop i)) := by
  have hln : (lns s).length ≤ s.length + 1 := lf_len s []
  intro d
  induction d with
  | zero =>
    intro i h1 hi
    rw [List.drop_eq_nil_of_le (by omega)]
    refine Ev.step (f := fun _ => some false) (fun k => ?_) (Ev.now _)
    simp only [link_gap.l0]
    rw [w64 (by rw [List.length_map]; omega) (by rw [List.length_map]; omega), if_neg (by rw [List.length_map]; omega)]
  | succ d ih =>
    intro i h1 hi
    have hil : i < (lns s).length := by omega
    have hd : (lns s).drop i = (lns s)[i] :: (lns s).drop (i + 1) := List.drop_eq_getElem_cons hil
    by_cases he : i + 1 = (lns s).length
    · rw [hd, List.drop_eq_nil_of_le (by omega)]
      refine Ev.step (f := fun _ => some false) (fun k => ?_) (Ev.now _)
      simp only [link_gap.l0]
      rw [w64 (by rw [List.length_map]; omega) (by rw [List.length_map]; omega), if_neg (by rw [List.length_map]; omega)]
    · have hil2 : i + 1 < (lns s).length := by omega
      have hd2 : (lns s).drop (i + 1) = (lns s)[i + 1] :: (lns s).drop (i + 2) := List.drop_eq_getElem_cons hil2
      have hm : mid true ((lns s).drop i) = (blk (lns s)[i] || mid true ((lns s).drop (i + 1))) := by rw [hd, hd2, mid, Bool.true_and]
      have hsz : ((lns s)[i]).length ≤ s.length := by
        have := lf_size s [] _ (List.getElem_mem hil)
        simpa using this
      have htr : strings_Trim.f (B (lns s)[i]) ⟨#[32, 9]⟩ = some (B (Lib.trimS (lns s)[i] [32, 9])) := by
        unfold strings_Trim.f
        rw [if_pos ⟨by rw [B_size]; omega, by decide, by decide⟩, B_data]
        rfl
      have hw : wrap64 ((i : Int) + 1) = ((i + 1 : Nat) : Int) := w64 (by omega) (by omega)
      have hstep : ∀ k, link_gap.l0 (k + 1) ((lns s).map B) (i : Int) = if blk (lns s)[i] = true then some true else link_gap.l0 k ((lns s).map B) ((i + 1 : Nat) : Int) := by
        intro k
        simp only [link_gap.l0]
        rw [w64 (by rw [List.length_map]; omega) (by rw [List.length_map]; omega), if_pos (by rw [List.length_map]; omega), if_pos (by omega), if_pos (by rw [List.length_map]; omega), getD_B i hil, htr, Option.bind_some, B_toList, hw]
        by_cases hb : blk (lns s)[i] = true
        · rw [if_pos hb, if_pos ((trim_nil _).2 hb)]
        · rw [if_neg hb, if_neg (fun e => hb ((trim_nil _).1 e))]
      rw [hm]
      by_cases hb : blk (lns s)[i] = true
      · rw [hb, Bool.true_or]
        refine Ev.step (f := fun _ => some true) (fun k => ?_) (Ev.now _)
        rw [hstep, if_pos hb]
      · rw [show blk (lns s)[i] = false by simpa using hb, Bool.false_or]
        refine Ev.step (fun k => ?_) (ih (i + 1) (by omega) (by omega))
        rw [hstep, if_neg hb]
theorem gap_ev (s : List UInt8) (hs : s.length ≤ 1048576) : Ev (fun k => link_gap.f k (B s)) (gp false s) := by
  have hp : (lns s).length ≠ 0 := fun e => lf_pos s [] (List.length_eq_zero_iff.1 e)
  have h := gap_l s hs ((lns s).length - 1) 1 (Nat.le_refl _) (by omega)
  rw [gp_lns] at h
  unfold link_gap.f
  rw [split_f s hs]
  exact h
theorem gap_walk (s : List UInt8) (hs : s.length ≤ 1048576) (w : World) (hLd : Laid w) : Calls Tryz.prog 80 #[.string (B s)] w fun e w' => e = .returned (.bool (gp false s)) ∧ Below w.heap.size w w' := by
  obtain ⟨k, hk⟩ := Ev.rounds (gap_ev s hs)
  exact link_gap.calls k (B s) _ w hLd hk
theorem cls_walk (s : List UInt8) (w : World) : Calls Tryz.prog 78 #[.string (B s)] w fun e w' => e = .returned (.int .u8 ((cls s).toNat : Int)) ∧ Drawn0 w w' := by
  cases s with
  | nil =>
    have hne : (B []).toList.isEmpty = true := by rw [B_toList]; rfl
    generalize B [] = S at *
    go_enter Tryz.func78, Tryz.ntmps78
    go_wp2
    go_ret
    exact ⟨rfl, Drawn0.refl _⟩
  | cons x t =>
    have hsz : (B (x :: t)).size = t.length + 1 := B_size _
    have hks : 0 < (B (x :: t)).size := by omega
    have hi : (B (x :: t))[0]'hks = x := rfl
    have e1 : ((x.toNat : Int) = 34) ↔ x = 34 := u8_eq x 34 (by omega)
    have e2 : ((x.toNat : Int) = 39) ↔ x = 39 := u8_eq x 39 (by omega)
    have e3 : ((x.toNat : Int) = 40) ↔ x = 40 := u8_eq x 40 (by omega)
    have hne : (B (x :: t)).toList.isEmpty = false := by rw [B_toList]; rfl
    have hc : cls (x :: t) = if x = 34 then x else if x = 39 then x else if x = 40 then 41 else 0 := rfl
    generalize B (x :: t) = S at *
    by_cases h1 : x = 34
    · rw [if_pos h1] at hc
      have HC := Lib.hid hc
      have q1 : ((x.toNat : Int) == 34) = true := beq_iff_eq.2 (e1.2 h1)
      clear hc e1 e2 e3 h1
      go_enter Tryz.func78, Tryz.ntmps78
      go_wp2
      go_ret
      rw [HC.out]
      exact ⟨rfl, Drawn0.refl _⟩
    · rw [if_neg h1] at hc
      have q1 : ((x.toNat : Int) == 34) = false := beq_eq_false_iff_ne.2 (fun e => h1 (e1.1 e))
      by_cases h2 : x = 39
      · rw [if_pos h2] at hc
        have HC := Lib.hid hc
        have q2 : ((x.toNat : Int) == 39) = true := beq_iff_eq.2 (e2.2 h2)
        clear hc e1 e2 e3 h1 h2
        go_enter Tryz.func78, Tryz.ntmps78
        go_wp2
        go_ret
        rw [HC.out]
        exact ⟨rfl, Drawn0.refl _⟩
      · rw [if_neg h2] at hc
        have q2 : ((x.toNat : Int) == 39) = false := beq_eq_false_iff_ne.2 (fun e => h2 (e2.1 e))
        by_cases h3 : x = 40
        · rw [if_pos h3] at hc
          have HC := Lib.hid hc
          have q3 : ((x.toNat : Int) == 40) = true := beq_iff_eq.2 (e3.2 h3)
          clear hc e1 e2 e3 h1 h2 h3
          go_enter Tryz.func78, Tryz.ntmps78
          go_wp2
          go_ret
          rw [HC.out]
          exact ⟨rfl, Drawn0.refl _⟩
        · rw [if_neg h3] at hc
          have HC := Lib.hid hc
          have q3 : ((x.toNat : Int) == 40) = false := beq_eq_false_iff_ne.2 (fun e => h3 (e3.1 e))
          clear hc e1 e2 e3 h1 h2 h3
          go_enter Tryz.func78, Tryz.ntmps78
          go_wp2
          go_ret
          rw [HC.out]
          exact ⟨rfl, Drawn0.refl _⟩
theorem ti_keep {w w5 w0 : World} {b : Nat} {x : Value} (hb5 : Below w.heap.size w w5)
    (h : w.cell? ⟨b, 0, none⟩ = some x ∧ Below w0.heap.size w0 w ∧ b + 1 ≤ w.heap.size) :
    w5.cell? ⟨b, 0, none⟩ = some x ∧ Below w0.heap.size w0 w5 ∧ b + 1 ≤ w5.heap.size := by
  obtain ⟨h1, h2, h3⟩ := h
  exact ⟨(hb5.cell (p := ⟨b, 0, none⟩) (by show b < _; omega)).trans h1, h2.trans (hb5.mono h2.size), Nat.le_trans h3 hb5.size⟩
set_option maxHeartbeats 4000000 in
set_option maxRecDepth 100000 in
theorem ttl_walk (s : List UInt8) (hs : s.length ≤ 1048576) (w : World) (hLd : Laid w) :
    Calls Tryz.prog 53 #[.string (B s)] w fun e w' => e = .returned (.tuple #[.string (B (ttl s).1), .int .i64 ((ttl s).2 : Int)]) ∧ Below w.heap.size w w' := by
  have HC := Lib.hid (fun W => cls_walk s W)
  have HLd := Lib.hid hLd
  clear hLd
  by_cases h0 : cls s = 0
  · have hT : ttl s = ([], 0) := by
      cases s with
      | nil => rfl
      | cons x t => unfold ttl; exact if_pos h0
    have HT := Lib.hid hT
    rw [h0] at HC
    clear hT h0
    go_enter Tryz.func53, Tryz.ntmps53
    go_wp2_with fail
    refine (HC.out _).mono ?_
    rintro e w1 ⟨rfl, hd⟩
    have HB1 := Lib.hid (hd.below.alloc hd.below.size (.cells #[.int .u8 (((0 : UInt8).toNat : Nat) : Int)] 5 (0, 0)))
    have hcell : (w1.alloc (.cells #[.int .u8 (((0 : UInt8).toNat : Nat) : Int)] 5 (0, 0))).cell? ⟨w1.heap.size, 0, none⟩ = some (.int .u8 (((0 : UInt8).toNat : Nat) : Int)) := cell_of_one (heap_alloc_new w1 _)
    have hz : (((0 : UInt8).toNat : Nat) : Int) = 0 := rfl
    rw [hz] at hcell HB1
    clear hd
    go_wp2
    go_ret2
    rw [HT.out]
    exact ⟨rfl, HB1.out⟩
  · obtain ⟨x, t, rfl⟩ : ∃ x t, s = x :: t := by
      cases s with
      | nil => exact absurd rfl h0
      | cons x t => exact ⟨x, t, rfl⟩
    rw [List.length_cons] at hs
    obtain ⟨en, hen⟩ : ∃ y, cls (x :: t) = y := ⟨_, rfl⟩
    have HE := Lib.hid (fun b W => each_tit (x :: t) (by rw [List.length_cons]; omega) 1 (by simp) b en W)
    rw [show List.drop 1 (x :: t) = t from rfl, show ((1 : Nat) : Int) = 1 from rfl] at HE
    have hEl := eachL_le (pTit en) t
    obtain ⟨E, hE⟩ : ∃ E, eachL (pTit en) t = E := ⟨_, rfl⟩
    have hlab : ttl (x :: t) = match t.drop E with
      | [] => ([], 0)
      | y :: _ => if y = en then (if gp false (t.take E) = true then ([], 0) else (une (t.take E), E + 2)) else ([], 0) := by subst hE; subst hen; exact if_neg h0
    rw [hE] at HE hEl
    rw [hen] at HC h0
    have HG := Lib.hid (fun W hW => gap_walk (t.take E) (by rw [List.length_take]; omega) W hW)
    have HW := Lib.hid (fun W => unesc_walk (t.take E) (by rw [List.length_take]; omega) W)
    obtain ⟨k, hk⟩ : ∃ k, 1 + E = k := ⟨_, rfl⟩
    rw [hk] at HE
    have hk1 : 1 ≤ k := by omega
    have hk2 : k ≤ 1048577 := by omega
    have hex : (B (x :: t)).extract 1 k = B (t.take E) := by rw [B_extract, show k - 1 = E by omega]; rfl
    have hn : (B (x :: t)).size = t.length + 1 := B_size _
    have hen0 : (((en.toNat : Nat) : Int) == 0) = false := beq_eq_false_iff_ne.2 (fun e => h0 ((u8_eq en 0 (by omega)).1 e))
    have hget : ∀ y u, t.drop E = y :: u → ∃ h : k < (B (x :: t)).size, (B (x :: t))[k]'h = y := by
      intro y u e
      have hlt : E < t.length := by
        rcases Nat.lt_or_ge E t.length with h | h
        · exact h
        · rw [List.drop_eq_nil_of_le h] at e; cases e
      refine ⟨by omega, ?_⟩
      have e2 : (x :: t).drop k = y :: u := by rw [← hk, Nat.add_comm, List.drop_succ_cons]; exact e
      have hk3 : k < (x :: t).length := by rw [List.length_cons]; omega
      rw [List.drop_eq_getElem_cons hk3] at e2
      exact (List.getElem_toArray hk3).trans (List.cons.inj e2).1
    generalize B (x :: t) = S at *
    cases ht : t.drop E with
    | nil =>
      rw [ht] at hlab
      have HL := Lib.hid hlab
      have hEt : t.length ≤ E := List.drop_eq_nil_iff.1 ht
      obtain rfl : k = t.length + 1 := by omega
      generalize t.length + 1 = n at *
      clear hlab hget ht hex hE HW HG hen h0
      go_enter Tryz.func53, Tryz.ntmps53
      go_wp2_with fail
      refine (HC.out _).mono ?_
      rintro e w1 ⟨rfl, hd⟩
      have hcell : (w1.alloc (.cells #[.int .u8 ((en.toNat : Nat) : Int)] 5 (0, 0))).cell? ⟨w1.heap.size, 0, none⟩ = some (.int .u8 ((en.toNat : Nat) : Int)) := cell_of_one (heap_alloc_new w1 _)
      have hlt : w1.heap.size < (w1.alloc (.cells #[.int .u8 ((en.toNat : Nat) : Int)] 5 (0, 0))).heap.size := by rw [al2_size]; omega
      have HB1 := Lib.hid (hd.below.alloc hd.below.size (.cells #[.int .u8 ((en.toNat : Nat) : Int)] 5 (0, 0)))
      clear hd
      go_wp2_with fail
      obtain ⟨w2, hw2⟩ : ∃ w2, w2 = w1.alloc (.cells #[.int .u8 ((en.toNat : Nat) : Int)] 5 (0, 0)) := ⟨_, rfl⟩
      rw [← hw2] at hcell hlt HB1
      rw [show (w1.alloc (Obj.cells #[Value.int IntKind.u8 ((en.toNat : Nat) : Int)] 5)) = w2 from hw2.symm]
      clear hw2
      obtain ⟨b, hb⟩ : ∃ b, w1.heap.size = b := ⟨_, rfl⟩
      rw [hb] at hcell hlt ⊢
      clear hb
      with_reducible refine (HE.out b w2 hlt hcell).mono ?_
      rintro e w3 ⟨rfl, hb3⟩
      have HB3 := Lib.hid (HB1.out.trans (hb3.mono HB1.out.size))
      have hc3 : w3.cell? ⟨b, 0, none⟩ = some (.int .u8 ((en.toNat : Nat) : Int)) := (hb3.cell (p := ⟨b, 0, none⟩) hlt).trans hcell
      clear hb3 hcell hlt HB1 HE HC
      go_wp2_with fail
      go_quiet (fail)
      go_wp2
      go_ret2
      rw [HL.out]
      exact ⟨rfl, pw_below_drewN HB3.out _⟩
    | cons y u =>
      obtain ⟨hks, hi⟩ := hget y u ht
      rw [ht] at hlab
      simp only at hlab
      have hkn : k < t.length + 1 := by omega
      have hkn2 : (1 : Int) ≤ (k : Int) := by omega
      have hkn3 : (k : Int) ≤ (t.length : Int) + 1 := by omega
      have hkn4 : k ≤ t.length + 1 := by omega
      have q1 : ((k : Int) == ((t.length + 1 : Nat) : Int)) = false := beq_eq_false_iff_ne.2 (by omega)
      have q1b : ((k : Int) == ((t.length : Int) + 1)) = false := beq_eq_false_iff_ne.2 (by omega)
      have eye : ((y.toNat : Int) = (en.toNat : Int)) ↔ y = en := ⟨fun h => UInt8.toNat_inj.1 (by omega), fun h => by rw [h]⟩
      by_cases h1 : y = en
      · rw [if_pos h1] at hlab
        have q2 : ((y.toNat : Int) == (en.toNat : Int)) = true := beq_iff_eq.2 (eye.2 h1)
        have q2b : ((y.toNat : Int) != (en.toNat : Int)) = false := by rw [bne, q2]; rfl
        cases hg : gp false (t.take E) with
        | true =>
          rw [if_pos hg] at hlab
          rw [hg] at HG
          have HL := Lib.hid hlab
          clear hlab hget ht hE eye h1 hg hen h0 HW
          go_enter Tryz.func53, Tryz.ntmps53
          go_wp2_with fail
          refine (HC.out _).mono ?_
          rintro e w1 ⟨rfl, hd⟩
          have hcell : (w1.alloc (.cells #[.int .u8 ((en.toNat : Nat) : Int)] 5 (0, 0))).cell? ⟨w1.heap.size, 0, none⟩ = some (.int .u8 ((en.toNat : Nat) : Int)) := cell_of_one (heap_alloc_new w1 _)
          have hlt : w1.heap.size < (w1.alloc (.cells #[.int .u8 ((en.toNat : Nat) : Int)] 5 (0, 0))).heap.size := by rw [al2_size]; omega
          have HB1 := Lib.hid (hd.below.alloc hd.below.size (.cells #[.int .u8 ((en.toNat : Nat) : Int)] 5 (0, 0)))
          clear hd
          go_wp2_with fail
          obtain ⟨w2, hw2⟩ : ∃ w2, w2 = w1.alloc (.cells #[.int .u8 ((en.toNat : Nat) : Int)] 5 (0, 0)) := ⟨_, rfl⟩
          rw [← hw2] at hcell hlt HB1
          rw [show (w1.alloc (Obj.cells #[Value.int IntKind.u8 ((en.toNat : Nat) : Int)] 5)) = w2 from hw2.symm]
          clear hw2
          obtain ⟨b, hb⟩ : ∃ b, w1.heap.size = b := ⟨_, rfl⟩
          rw [hb] at hcell hlt ⊢
          clear hb
          with_reducible refine (HE.out b w2 hlt hcell).mono ?_
          rintro e w3 ⟨rfl, hb3⟩
          have HB3 := Lib.hid (HB1.out.trans (hb3.mono HB1.out.size))
          have hc3 : w3.cell? ⟨b, 0, none⟩ = some (.int .u8 ((en.toNat : Nat) : Int)) := (hb3.cell (p := ⟨b, 0, none⟩) hlt).trans hcell
          have hlt3 : b + 1 ≤ w3.heap.size := Nat.le_trans hlt hb3.size
          have HS3 : w3.cell? ⟨b, 0, none⟩ = some (.int .u8 ((en.toNat : Nat) : Int)) ∧ Below w.heap.size w w3 ∧ b + 1 ≤ w3.heap.size := ⟨hc3, HB3.out, hlt3⟩
          have HG2 := Lib.hid (fun W (hS : W.cell? ⟨b, 0, none⟩ = some (.int .u8 ((en.toNat : Nat) : Int)) ∧ Below w.heap.size w W ∧ b + 1 ≤ W.heap.size) => HG.out W (HLd.out.go hS.2.1))
          clear hb3 hcell hlt hlt3 HB1 HB3 hc3 HE HC HG
          go_wp2_with fail
          go_region_held3 (fun W => W.cell? ⟨b, 0, none⟩ = some (.int .u8 ((en.toNat : Nat) : Int)) ∧ Below w.heap.size w W ∧ b + 1 ≤ W.heap.size)
            (first | (refine ti_keep hb5 ?_; assumption) | (refine ti_keep (pw_below_drewN (Below.refl _ _) _) ?_; assumption) | (refine ti_keep (Below.drew (Below.refl _ _)) ?_; assumption))
            (first | (go_at_call 80; refine (HG2.out _ (by assumption)).mono ?_; rintro e w5 ⟨rfl, hb5⟩))
          rename_i hh
          have HB4 := Lib.hid hh.2.1
          clear hh
          go_wp2
          go_ret2
          rw [HL.out]
          exact ⟨rfl, HB4.out⟩
        | false =>
          rw [if_neg (by rw [hg]; decide)] at hlab
          rw [hg] at HG
          have HL := Lib.hid hlab
          have HK := Lib.hid (show ((k : Int) + 1) = ((E + 2 : Nat) : Int) by omega)
          clear hlab hget ht hE eye h1 hg hen h0
          go_enter Tryz.func53, Tryz.ntmps53
          go_wp2_with fail
          refine (HC.out _).mono ?_
          rintro e w1 ⟨rfl, hd⟩
          have hcell : (w1.alloc (.cells #[.int .u8 ((en.toNat : Nat) : Int)] 5 (0, 0))).cell? ⟨w1.heap.size, 0, none⟩ = some (.int .u8 ((en.toNat : Nat) : Int)) := cell_of_one (heap_alloc_new w1 _)
          have hlt : w1.heap.size < (w1.alloc (.cells #[.int .u8 ((en.toNat : Nat) : Int)] 5 (0, 0))).heap.size := by rw [al2_size]; omega
          have HB1 := Lib.hid (hd.below.alloc hd.below.size (.cells #[.int .u8 ((en.toNat : Nat) : Int)] 5 (0, 0)))
          clear hd
          go_wp2_with fail
          obtain ⟨w2, hw2⟩ : ∃ w2, w2 = w1.alloc (.cells #[.int .u8 ((en.toNat : Nat) : Int)] 5 (0, 0)) := ⟨_, rfl⟩
          rw [← hw2] at hcell hlt HB1
          rw [show (w1.alloc (Obj.cells #[Value.int IntKind.u8 ((en.toNat : Nat) : Int)] 5)) = w2 from hw2.symm]
          clear hw2
          obtain ⟨b, hb⟩ : ∃ b, w1.heap.size = b := ⟨_, rfl⟩
          rw [hb] at hcell hlt ⊢
          clear hb
          with_reducible refine (HE.out b w2 hlt hcell).mono ?_
          rintro e w3 ⟨rfl, hb3⟩
          have HB3 := Lib.hid (HB1.out.trans (hb3.mono HB1.out.size))
          have hc3 : w3.cell? ⟨b, 0, none⟩ = some (.int .u8 ((en.toNat : Nat) : Int)) := (hb3.cell (p := ⟨b, 0, none⟩) hlt).trans hcell
          have hlt3 : b + 1 ≤ w3.heap.size := Nat.le_trans hlt hb3.size
          have HS3 : w3.cell? ⟨b, 0, none⟩ = some (.int .u8 ((en.toNat : Nat) : Int)) ∧ Below w.heap.size w w3 ∧ b + 1 ≤ w3.heap.size := ⟨hc3, HB3.out, hlt3⟩
          have HG2 := Lib.hid (fun W (hS : W.cell? ⟨b, 0, none⟩ = some (.int .u8 ((en.toNat : Nat) : Int)) ∧ Below w.heap.size w W ∧ b + 1 ≤ W.heap.size) => HG.out W (HLd.out.go hS.2.1))
          clear hb3 hcell hlt hlt3 HB1 HB3 hc3 HE HC HG
          go_wp2_with fail
          go_region_held3 (fun W => W.cell? ⟨b, 0, none⟩ = some (.int .u8 ((en.toNat : Nat) : Int)) ∧ Below w.heap.size w W ∧ b + 1 ≤ W.heap.size)
            (first | (refine ti_keep hb5 ?_; assumption) | (refine ti_keep (pw_below_drewN (Below.refl _ _) _) ?_; assumption) | (refine ti_keep (Below.drew (Below.refl _ _)) ?_; assumption))
            (first | (go_at_call 80; refine (HG2.out _ (by assumption)).mono ?_; rintro e w5 ⟨rfl, hb5⟩))
          rename_i hh
          have HB4 := Lib.hid hh.2.1
          clear hh
          go_wp2_with fail
          with_reducible refine (HW.out _ (HLd.out.go HB4.out)).mono ?_
          rintro e w5 ⟨rfl, hb5⟩
          have HB5 := Lib.hid (HB4.out.trans (hb5.mono HB4.out.size))
          clear hb5
          go_wp2
          go_ret2
          rw [HL.out]
          exact ⟨by first | rfl | (rw [HK.out]; rfl), HB5.out⟩
      · rw [if_neg h1] at hlab
        have HL := Lib.hid hlab
        have q2 : ((y.toNat : Int) == (en.toNat : Int)) = false := beq_eq_false_iff_ne.2 (fun e => h1 (eye.1 e))
        have q2b : ((y.toNat : Int) != (en.toNat : Int)) = true := by rw [bne, q2]; rfl
        clear hlab hget ht hE eye h1 hen h0 HW HG
        go_enter Tryz.func53, Tryz.ntmps53
        go_wp2_with fail
        refine (HC.out _).mono ?_
        rintro e w1 ⟨rfl, hd⟩
        have hcell : (w1.alloc (.cells #[.int .u8 ((en.toNat : Nat) : Int)] 5 (0, 0))).cell? ⟨w1.heap.size, 0, none⟩ = some (.int .u8 ((en.toNat : Nat) : Int)) := cell_of_one (heap_alloc_new w1 _)
        have hlt : w1.heap.size < (w1.alloc (.cells #[.int .u8 ((en.toNat : Nat) : Int)] 5 (0, 0))).heap.size := by rw [al2_size]; omega
        have HB1 := Lib.hid (hd.below.alloc hd.below.size (.cells #[.int .u8 ((en.toNat : Nat) : Int)] 5 (0, 0)))
        clear hd
        go_wp2_with fail
        obtain ⟨w2, hw2⟩ : ∃ w2, w2 = w1.alloc (.cells #[.int .u8 ((en.toNat : Nat) : Int)] 5 (0, 0)) := ⟨_, rfl⟩
        rw [← hw2] at hcell hlt HB1
        rw [show (w1.alloc (Obj.cells #[Value.int IntKind.u8 ((en.toNat : Nat) : Int)] 5)) = w2 from hw2.symm]
        clear hw2
        obtain ⟨b, hb⟩ : ∃ b, w1.heap.size = b := ⟨_, rfl⟩
        rw [hb] at hcell hlt ⊢
        clear hb
        with_reducible refine (HE.out b w2 hlt hcell).mono ?_
        rintro e w3 ⟨rfl, hb3⟩
        have HB3 := Lib.hid (HB1.out.trans (hb3.mono HB1.out.size))
        have hc3 : w3.cell? ⟨b, 0, none⟩ = some (.int .u8 ((en.toNat : Nat) : Int)) := (hb3.cell (p := ⟨b, 0, none⟩) hlt).trans hcell
        clear hb3 hcell hlt HB1 HE HC
        go_wp2_with fail
        go_quiet (fail)
        go_wp2
        go_ret2
        rw [HL.out]
        exact ⟨rfl, pw_below_drewN HB3.out _⟩
end Go.Proofs.YtekifcbokdidlaaGreatDoor.PA

namespace Go.Proofs.YtekifcbokdidlaaGreatDoor.PA
open Go.RowKit Go.Proofs.YtekifcbokdidlaaGreatDoor.Pl Go.Proofs.YtekifcbokdidlaaGreatDoorW.PrintWords Go.Proofs.YtekifcbokdidlaaGreatDoorW.PrintLast Go.Proofs.YtekifcbokdidlaaGreatDoorW.PrintMore Go.Proofs.YtekifcbokdidlaaGreatDoor.Pure
set_option linter.unusedVariables false

def link_Label.f (a0 : ByteArray) : Option (ByteArray × Int) := if a0.size ≤ 1048576 then some (B (lab a0.data.toList).1, ((lab a0.data.toList).2 : Int)) else none
theorem link_Label.calls (a0 : ByteArray) (r1 : ByteArray) (r2 : Int) (w : World) (h : link_Label.f a0 = some (r1, r2)) :
    Calls Tryz.prog 26 #[.string a0] w fun e w' => e = .returned (.tuple #[.string r1, .int .i64 r2]) ∧ Below w.heap.size w w' := by
  unfold link_Label.f at h
  split at h
  · rename_i hc
    have h2 := Option.some.inj h
    obtain ⟨rfl, rfl⟩ := Prod.mk.inj h2
    exact lab_walk a0.data.toList (by rw [Array.length_toList]; exact hc) w
  · cases h
def link_Dest.f (a0 : ByteArray) : Option (ByteArray × Int × Bool) := if a0.size ≤ 1048576 then some (B (dst a0.data.toList).1, ((dst a0.data.toList).2.1 : Int), (dst a0.data.toList).2.2) else none
theorem link_Dest.calls (a0 : ByteArray) (r1 : ByteArray) (r2 : Int) (r3 : Bool) (w : World) (hLd : Laid w) (h : link_Dest.f a0 = some (r1, r2, r3)) :
    Calls Tryz.prog 29 #[.string a0] w fun e w' => e = .returned (.tuple #[.string r1, .int .i64 r2, .bool r3]) ∧ Below w.heap.size w w' := by
  unfold link_Dest.f at h
  split at h
  · rename_i hc
    have h2 := Option.some.inj h
    obtain ⟨rfl, h3⟩ := Prod.mk.inj h2
    obtain ⟨rfl, rfl⟩ := Prod.mk.inj h3
    exact dst_walk a0.data.toList (by rw [Array.length_toList]; exact hc) w hLd
  · cases h
def link_Title.f (a0 : ByteArray) : Option (ByteArray × Int) := if a0.size ≤ 1048576 then some (B (ttl a0.data.toList).1, ((ttl a0.data.toList).2 : Int)) else none
theorem link_Title.calls (a0 : ByteArray) (r1 : ByteArray) (r2 : Int) (w : World) (hLd : Laid w) (h : link_Title.f a0 = some (r1, r2)) :
    Calls Tryz.prog 53 #[.string a0] w fun e w' => e = .returned (.tuple #[.string r1, .int .i64 r2]) ∧ Below w.heap.size w w' := by
  unfold link_Title.f at h
  split at h
  · rename_i hc
    have h2 := Option.some.inj h
    obtain ⟨rfl, rfl⟩ := Prod.mk.inj h2
    exact ttl_walk a0.data.toList (by rw [Array.length_toList]; exact hc) w hLd
  · cases h
end Go.Proofs.YtekifcbokdidlaaGreatDoor.PA

namespace Go.Proofs.YtekifcbokdidlaaGreatDoor.PA
open Go.RowKit Go.Shelf Go.Proofs.YtekifcbokdidlaaGreatDoorW.PrintWords Go.Proofs.YtekifcbokdidlaaGreatDoorW.PrintLast Go.Proofs.YtekifcbokdidlaaGreatDoorW.PrintMore Go.Proofs.YtekifcbokdidlaaGreatDoor.Pl
set_option linter.unusedVariables false

instance : Inhabited S26 := ⟨z26⟩
def lidx_ren : Ren := ⟨fun | 6 => 20 | n => n, fun | 22 => 22 | 23 => 26 | 25 => 42 | n => n, fun n => n⟩
theorem lidx : Go.Proofs.SlLaysH0.n6 Tryz.prog lidx_ren := {
  mixed := by kernel_rfl,
  f6 := ⟨"slices.IndexFunc[[]incipit/api.Ref,incipit/api.Ref]", of_decide_eq_true (by kernel_rfl), Tryz.func20.trans (congrArg some (by kernel_rfl))⟩,
  t0 := Tryz.underlying0, a0 := Tryz.isAgg0, z0 := Tryz.sizeOf0, v0 := Tryz.zeroValue0, t3 := Tryz.underlying3,
  a3 := Tryz.isAgg3, z3 := Tryz.sizeOf3, v3 := Tryz.zeroValue3, t4 := Tryz.underlying4, a4 := Tryz.isAgg4,
  z4 := Tryz.sizeOf4, v4 := Tryz.zeroValue4, t22 := Tryz.underlying22, a22 := Tryz.isAgg22, z22 := Tryz.sizeOf22,
  v22 := Tryz.zeroValue22, t25 := Tryz.underlying42, a25 := Tryz.isAgg42, z25 := Tryz.sizeOf42,
  v25 := Tryz.zeroValue42 }
/-- A definition's cells. -/
def encR3 (x : S26) : List Value := [.string x.f0, .string x.f1, .string x.f2]
theorem refs_lie {w : World} {A : Option Addr} {l : List S26} (h : Kd.C k26 w A l.length l) (h0 : 0 < l.length) :
    ∃ b off, A = some ⟨b, off, none⟩ ∧ b < w.heap.size ∧ ∀ j, j < l.length → ∀ i v, (encR3 l[j]!)[i]? = some v → w.cell? ⟨b, off + j * 3 + i, none⟩ = some v := by
  obtain ⟨ad, e, hc⟩ := h.2.2 h0
  have key : ∀ j, j < l.length → ∀ i v, (encR3 l[j]!)[i]? = some v → w.cell? (ad.add (j * 3 + i)) = some v := by
    intro j hj i v hi
    obtain ⟨c, hl, hr, hx⟩ := hc j _ (List.getElem?_eq_getElem hj)
    obtain rfl := k26_open hr
    have e2 : l[j]! = l[j] := by simp [hj]
    rw [e2] at hi
    exact hx i v hi
  have h00 := key 0 h0 0 (.string l[0]!.f0) rfl
  rw [show ad.add (0 * 3 + 0) = ad from rfl] at h00
  obtain ⟨b, off, sp⟩ := ad
  have hsp : sp = none := by
    cases sp with
    | none => rfl
    | some q =>
      simp only [World.cell?] at h00
      split at h00 <;> simp at h00
  subst hsp
  refine ⟨b, off, e, World.block_lt_of_cell? w _ h00, fun j hj i v hi => ?_⟩
  rw [← key j hj i v hi]
  congr 1
  unfold Addr.add
  split
  · rename_i e0
    rw [show off + j * 3 + i = off by omega]
  · rw [Nat.add_assoc]
theorem idx_empty (A0 : Option Addr) (c0 : Nat) (fv : Value) (w : World) : Calls Tryz.prog 20 #[.slice A0 0 c0, fv] w fun e w' => e = .returned (.int .i64 (-1)) ∧ Below w.heap.size w w' := by
  go_enter Tryz.func20, Tryz.ntmps20
  go_wp2
  go_loopw [8] (fun vi wr => vi = .int .i64 0 ∧ Hid (Below w.heap.size w wr)) (fun _ _ => 0)
  case atStart => exact ⟨rfl, Lib.hid (Below.refl _ _)⟩
  case round =>
    obtain ⟨rfl, HB⟩ := hrel
    go_wp2
    go_ret
    exact ⟨rfl, HB.out⟩
theorem idx_walk (A0 : Option Addr) (c0 : Nat) (l : List S26) (p : S26 → Bool) (g : Nat) (lb : Array Value) (eg : ∀ args w, (callFunc g args).run Tryz.prog w = .ok (.enter g args) w) (w : World)
    (hp : PredBelow Tryz.prog g lb (fun x => .agg (encR3 x).toArray) p w) (hC : Kd.C k26 w A0 l.length l) :
    Calls Tryz.prog 20 #[.slice A0 l.length c0, .func (.func g) #[] lb] w fun e w' => e = .returned (.int .i64 (Lib.idxBy (fun _ y => p y) l default)) ∧ Below w.heap.size w w' := by
  rcases Nat.eq_zero_or_pos l.length with h0 | h0
  · obtain rfl := List.length_eq_zero_iff.1 h0
    exact idx_empty A0 c0 _ w
  · obtain ⟨b, off, rfl, hb, hc⟩ := refs_lie hC h0
    have h := AnyQ.slices_IndexFunc lidx 3 Tryz.isAgg26 Tryz.sizeOf26 encR3 (fun _ => rfl) p g lb eg b off l.length c0 l w hp (Nat.le_refl _) (Kd.C_max hC) hb hc
    rw [List.take_length] at h
    exact h
/-- The closure of refs.Find: is that a definition's label? -/
theorem find_pred (x : ByteArray) (b : Nat) (w : World) (hb : b < w.heap.size) (hc : w.cell? ⟨b, 0, none⟩ = some (.string x)) :
    PredBelow Tryz.prog 21 #[.pointer (some ⟨b, 0, none⟩)] (fun y => .agg (encR3 y).toArray) (fun y => y.f0.toList == x.toList) w := fun W y hB => by
  have hc2 : W.cell? ⟨b, 0, none⟩ = some (.string x) := (hB.cell (p := ⟨b, 0, none⟩) hb).trans hc
  have hbW : b < W.heap.size := Nat.lt_of_lt_of_le hb hB.size
  have hne : b ≠ W.heap.size := by omega
  show Calls Tryz.prog 21 #[.agg #[.string y.f0, .string y.f1, .string y.f2], .pointer (some ⟨b, 0, none⟩)] W _
  go_enter Tryz.func21, Tryz.ntmps21
  go_wp2
  go_ret
  exact ⟨rfl, hB.alloc hB.size _⟩
theorem row3_facts {w : World} {g : Nat} {a b c : ByteArray} (h : w.heap[g]? = some (.cells #[.string a, .string b, .string c] 26 (0, 0))) :
    w.cell? ⟨g, 0, none⟩ = some (.string a) ∧ w.cell? ⟨g, 1, none⟩ = some (.string b) ∧ w.cell? ⟨g, 2, none⟩ = some (.string c) ∧ w.frozen? ⟨g, 0, none⟩ = false ∧ w.frozen? ⟨g, 1, none⟩ = false ∧ w.frozen? ⟨g, 2, none⟩ = false := by
  refine ⟨?_, ?_, ?_, ?_, ?_, ?_⟩ <;> simp [World.cell?, World.frozen?, h]
/-- The definition of a label. -/
def fnd (l : List S26) (x : List UInt8) : S26 × Bool :=
  if x = [] then (z26, false) else match l.find? (fun y => y.f0.toList == x) with
    | some y => (y, true)
    | none => (z26, false)
theorem idx_from (p : S26 → Bool) : ∀ (l : List S26) (i : Nat), (l.find? p = none ∧ Lib.idxByFrom (fun _ y => p y) default l i = -1) ∨ ∃ k, k < l.length ∧ l.find? p = some l[k]! ∧ Lib.idxByFrom (fun _ y => p y) default l i = ((i + k : Nat) : Int)
  | [], i => .inl ⟨rfl, rfl⟩
  | y :: r, i => by
    unfold Lib.idxByFrom
    by_cases h : p y = true
    · exact .inr ⟨0, by simp, by simp [List.find?, h], by simp [h]⟩
    · rcases idx_from p r (i + 1) with ⟨h1, h2⟩ | ⟨k, hk, h1, h2⟩
      · exact .inl ⟨by simp [List.find?, h]; simpa using h1, by simp [h, h2]⟩
      · refine .inr ⟨k + 1, by simp; omega, ?_, ?_⟩
        · simp only [List.find?, h]
          rw [h1]
          simp
        · rw [if_neg h, h2]
          congr 1
          omega
set_option maxHeartbeats 4000000 in
set_option maxRecDepth 100000 in
theorem find_walk (A0 : Option Addr) (c0 : Nat) (l : List S26) (s : ByteArray) (w : World) (hLd : Laid w) (hC : Kd.C k26 w A0 l.length l) (hs : s.size ≤ 65536) :
    Calls Tryz.prog 10 #[.slice A0 l.length c0, .string s] w fun e w' => e = .returned (.tuple #[.agg #[.string (fnd l (lbl s.data.toList)).1.f0, .string (fnd l (lbl s.data.toList)).1.f1, .string (fnd l (lbl s.data.toList)).1.f2], .bool (fnd l (lbl s.data.toList)).2]) ∧ Below w.heap.size w w' := by
  have HLab := Lib.hid (fun W hW => Label_walk s W hW hs)
  obtain ⟨x, hx⟩ : ∃ x, lbl s.data.toList = x := ⟨_, rfl⟩
  rw [hx] at HLab ⊢
  have HLd := Lib.hid hLd
  have HC := Lib.hid hC
  have hmax := Kd.C_max hC
  have hidx := idx_from (fun y => y.f0.toList == x) l 0
  have hfn : fnd l x = if x = [] then (z26, false) else match l.find? (fun y => y.f0.toList == x) with
    | some y => (y, true)
    | none => (z26, false) := rfl
  have HI := Lib.hid (fun b W (hb : b < W.heap.size) (hc : W.cell? ⟨b, 0, none⟩ = some (.string (B x))) hCW => idx_walk A0 c0 l (fun y => y.f0.toList == (B x).toList) 21 #[.pointer (some ⟨b, 0, none⟩)] (enters_of Tryz.func21 (by kernel_rfl) rfl) W (find_pred (B x) b W hb hc) hCW)
  rw [B_toList] at HI
  have hbt : (B x).toList = x := B_toList x
  obtain ⟨X, hX⟩ : ∃ X, B x = X := ⟨_, rfl⟩
  rw [hX] at HLab HI hbt
  unfold Lib.idxBy at HI
  clear hX hx hLd hC hs
  rcases hidx with ⟨hnone, hid⟩ | ⟨k, hk, hsome, hid⟩
  · rw [hid] at HI
    have HF := Lib.hid (show fnd l x = (z26, false) by rw [hfn, hnone]; split <;> rfl)
    rw [HF.out]
    clear hid hnone hfn hbt HF
    go_enter Tryz.func10, Tryz.ntmps10
    go_wp2_with fail
    have HB0 := Lib.hid ((Below.refl w.heap.size w).alloc (Nat.le_refl _) (.cells #[.string ⟨#[]⟩, .string ⟨#[]⟩, .string ⟨#[]⟩] 26 (0, 0)))
    have hR0 := heap_alloc_new w (.cells #[.string ⟨#[]⟩, .string ⟨#[]⟩, .string ⟨#[]⟩] 26 (0, 0))
    have hRl : w.heap.size < (w.alloc (.cells #[.string ⟨#[]⟩, .string ⟨#[]⟩, .string ⟨#[]⟩] 26 (0, 0))).heap.size := by rw [World.size_alloc]; omega
    refine (HLab.out _ (HLd.out.go HB0.out)).mono ?_
    rintro e w1 ⟨rfl, hb1⟩
    have hR1 := (hb1.block _ hRl).trans hR0
    have HB1 := Lib.hid (HB0.out.trans (hb1.mono (Nat.le_of_lt hRl)))
    have hl1 : w.heap.size < w1.heap.size := Nat.lt_of_lt_of_le hRl hb1.size
    clear hb1 HB0 hR0 hRl HLab HLd
    go_wp2_with fail
    obtain ⟨w2, hw2⟩ : ∃ w2, w2 = w1.alloc (.cells #[.string X] 9 (0, 0)) := ⟨_, rfl⟩
    have hcell2 : w2.cell? ⟨w1.heap.size, 0, none⟩ = some (.string X) := by rw [hw2]; exact cell_of_one (heap_alloc_new w1 _)
    have hl2 : w1.heap.size < w2.heap.size := by rw [hw2, World.size_alloc]; omega
    have HB2 := Lib.hid (show Below w.heap.size w w2 by rw [hw2]; exact HB1.out.alloc (Nat.le_of_lt hl1) _)
    have hR2 : w2.heap[w.heap.size]? = some (.cells #[.string ⟨#[]⟩, .string ⟨#[]⟩, .string ⟨#[]⟩] 26 (0, 0)) := by rw [hw2]; exact (Below.heap_alloc w1 _ _ hl1).trans hR1
    rw [show (w1.alloc (Obj.cells #[Value.string X] 9)) = w2 from hw2.symm]
    clear hw2 hR1 HB1
    obtain ⟨bx, hbx⟩ : ∃ b, w1.heap.size = b := ⟨_, rfl⟩
    rw [hbx] at hcell2 hl1 hl2 ⊢
    clear hbx
    with_reducible refine (HI.out bx w2 hl2 hcell2 (Kd.C_below HC.out HB2.out)).mono ?_
    rintro e w3 ⟨rfl, hb3⟩
    have hcell3 := (hb3.cell (p := ⟨bx, 0, none⟩) hl2).trans hcell2
    have hR3 := (hb3.block w.heap.size (Nat.lt_trans hl1 hl2)).trans hR2
    have HC3 := Lib.hid (Kd.C_below (Kd.C_below HC.out HB2.out) hb3)
    have HB3 := Lib.hid (HB2.out.trans (hb3.mono HB2.out.size))
    clear hb3 hcell2 hR2 HB2 HI HC hl2
    clear HC3 hcell3
    obtain ⟨k0, k1, k2, f0, f1, f2⟩ := row3_facts hR3
    go_wp2
    refine bodyPost_ret (results_ct rfl _ _ w.heap.size 26 #[.string ⟨#[]⟩, .string ⟨#[]⟩, .string ⟨#[]⟩] (0, 0) _ rfl (blk_put (blk_put (blk_put hR3 0 _ rfl) 1 _ rfl) 2 _ rfl) Tryz.underlying26 rfl (by kernel_rfl)) rfl ?_
    exact ⟨rfl, ((HB3.out.setCell (p := ⟨w.heap.size, 0, none⟩) (Nat.le_refl _) _).setCell (p := ⟨w.heap.size, 1, none⟩) (Nat.le_refl _) _).setCell (p := ⟨w.heap.size, 2, none⟩) (Nat.le_refl _) _⟩
  · rw [Nat.zero_add] at hid
    rw [hid] at HI
    clear hid
    by_cases hx0 : x = []
    · have HF := Lib.hid (show fnd l x = (z26, false) by rw [hfn, if_pos hx0])
      rw [HF.out]
      have hXe : X.toList.isEmpty = true := by rw [hbt, hx0]; rfl
      have q : decide ((k : Int) < 0) = false := decide_eq_false (by omega)
      clear hsome hfn hbt HF
      go_enter Tryz.func10, Tryz.ntmps10
      go_wp2_with fail
      have HB0 := Lib.hid ((Below.refl w.heap.size w).alloc (Nat.le_refl _) (.cells #[.string ⟨#[]⟩, .string ⟨#[]⟩, .string ⟨#[]⟩] 26 (0, 0)))
      have hR0 := heap_alloc_new w (.cells #[.string ⟨#[]⟩, .string ⟨#[]⟩, .string ⟨#[]⟩] 26 (0, 0))
      have hRl : w.heap.size < (w.alloc (.cells #[.string ⟨#[]⟩, .string ⟨#[]⟩, .string ⟨#[]⟩] 26 (0, 0))).heap.size := by rw [World.size_alloc]; omega
      refine (HLab.out _ (HLd.out.go HB0.out)).mono ?_
      rintro e w1 ⟨rfl, hb1⟩
      have hR1 := (hb1.block _ hRl).trans hR0
      have HB1 := Lib.hid (HB0.out.trans (hb1.mono (Nat.le_of_lt hRl)))
      have hl1 : w.heap.size < w1.heap.size := Nat.lt_of_lt_of_le hRl hb1.size
      clear hb1 HB0 hR0 hRl HLab HLd
      go_wp2_with fail
      obtain ⟨w2, hw2⟩ : ∃ w2, w2 = w1.alloc (.cells #[.string X] 9 (0, 0)) := ⟨_, rfl⟩
      have hcell2 : w2.cell? ⟨w1.heap.size, 0, none⟩ = some (.string X) := by rw [hw2]; exact cell_of_one (heap_alloc_new w1 _)
      have hl2 : w1.heap.size < w2.heap.size := by rw [hw2, World.size_alloc]; omega
      have HB2 := Lib.hid (show Below w.heap.size w w2 by rw [hw2]; exact HB1.out.alloc (Nat.le_of_lt hl1) _)
      have hR2 : w2.heap[w.heap.size]? = some (.cells #[.string ⟨#[]⟩, .string ⟨#[]⟩, .string ⟨#[]⟩] 26 (0, 0)) := by rw [hw2]; exact (Below.heap_alloc w1 _ _ hl1).trans hR1
      rw [show (w1.alloc (Obj.cells #[Value.string X] 9)) = w2 from hw2.symm]
      clear hw2 hR1 HB1
      obtain ⟨bx, hbx⟩ : ∃ b, w1.heap.size = b := ⟨_, rfl⟩
      rw [hbx] at hcell2 hl1 hl2 ⊢
      clear hbx
      with_reducible refine (HI.out bx w2 hl2 hcell2 (Kd.C_below HC.out HB2.out)).mono ?_
      rintro e w3 ⟨rfl, hb3⟩
      have hcell3 := (hb3.cell (p := ⟨bx, 0, none⟩) hl2).trans hcell2
      have hR3 := (hb3.block w.heap.size (Nat.lt_trans hl1 hl2)).trans hR2
      have HC3 := Lib.hid (Kd.C_below (Kd.C_below HC.out HB2.out) hb3)
      have HB3 := Lib.hid (HB2.out.trans (hb3.mono HB2.out.size))
      clear hb3 hcell2 hR2 HB2 HI HC hl2
      clear HC3
      obtain ⟨k0, k1, k2, f0, f1, f2⟩ := row3_facts hR3
      go_wp2
      refine bodyPost_ret (results_ct rfl _ _ w.heap.size 26 #[.string ⟨#[]⟩, .string ⟨#[]⟩, .string ⟨#[]⟩] (0, 0) _ rfl (blk_put (blk_put (blk_put hR3 0 _ rfl) 1 _ rfl) 2 _ rfl) Tryz.underlying26 rfl (by kernel_rfl)) rfl ?_
      exact ⟨rfl, ((HB3.out.setCell (p := ⟨w.heap.size, 0, none⟩) (Nat.le_refl _) _).setCell (p := ⟨w.heap.size, 1, none⟩) (Nat.le_refl _) _).setCell (p := ⟨w.heap.size, 2, none⟩) (Nat.le_refl _) _⟩
    · have HF := Lib.hid (show fnd l x = (l[k]!, true) by rw [hfn, if_neg hx0, hsome])
      have hXe : X.toList.isEmpty = false := by rw [hbt]; cases x with | nil => exact absurd rfl hx0 | cons _ _ => rfl
      have q : decide ((k : Int) < 0) = false := decide_eq_false (by omega)
      clear hsome hfn hbt
      go_enter Tryz.func10, Tryz.ntmps10
      go_wp2_with fail
      have HB0 := Lib.hid ((Below.refl w.heap.size w).alloc (Nat.le_refl _) (.cells #[.string ⟨#[]⟩, .string ⟨#[]⟩, .string ⟨#[]⟩] 26 (0, 0)))
      have hR0 := heap_alloc_new w (.cells #[.string ⟨#[]⟩, .string ⟨#[]⟩, .string ⟨#[]⟩] 26 (0, 0))
      have hRl : w.heap.size < (w.alloc (.cells #[.string ⟨#[]⟩, .string ⟨#[]⟩, .string ⟨#[]⟩] 26 (0, 0))).heap.size := by rw [World.size_alloc]; omega
      refine (HLab.out _ (HLd.out.go HB0.out)).mono ?_
      rintro e w1 ⟨rfl, hb1⟩
      have hR1 := (hb1.block _ hRl).trans hR0
      have HB1 := Lib.hid (HB0.out.trans (hb1.mono (Nat.le_of_lt hRl)))
      have hl1 : w.heap.size < w1.heap.size := Nat.lt_of_lt_of_le hRl hb1.size
      clear hb1 HB0 hR0 hRl HLab HLd
      go_wp2_with fail
      obtain ⟨w2, hw2⟩ : ∃ w2, w2 = w1.alloc (.cells #[.string X] 9 (0, 0)) := ⟨_, rfl⟩
      have hcell2 : w2.cell? ⟨w1.heap.size, 0, none⟩ = some (.string X) := by rw [hw2]; exact cell_of_one (heap_alloc_new w1 _)
      have hl2 : w1.heap.size < w2.heap.size := by rw [hw2, World.size_alloc]; omega
      have HB2 := Lib.hid (show Below w.heap.size w w2 by rw [hw2]; exact HB1.out.alloc (Nat.le_of_lt hl1) _)
      have hR2 : w2.heap[w.heap.size]? = some (.cells #[.string ⟨#[]⟩, .string ⟨#[]⟩, .string ⟨#[]⟩] 26 (0, 0)) := by rw [hw2]; exact (Below.heap_alloc w1 _ _ hl1).trans hR1
      rw [show (w1.alloc (Obj.cells #[Value.string X] 9)) = w2 from hw2.symm]
      clear hw2 hR1 HB1
      obtain ⟨bx, hbx⟩ : ∃ b, w1.heap.size = b := ⟨_, rfl⟩
      rw [hbx] at hcell2 hl1 hl2 ⊢
      clear hbx
      with_reducible refine (HI.out bx w2 hl2 hcell2 (Kd.C_below HC.out HB2.out)).mono ?_
      rintro e w3 ⟨rfl, hb3⟩
      have hcell3 := (hb3.cell (p := ⟨bx, 0, none⟩) hl2).trans hcell2
      have hR3 := (hb3.block w.heap.size (Nat.lt_trans hl1 hl2)).trans hR2
      have HC3 := Lib.hid (Kd.C_below (Kd.C_below HC.out HB2.out) hb3)
      have HB3 := Lib.hid (HB2.out.trans (hb3.mono HB2.out.size))
      clear hb3 hcell2 hR2 HB2 HI HC hl2
      obtain ⟨b, off, rfl, hbl, hcs⟩ := refs_lie HC3.out (by omega)
      have d0 : w3.cell? ⟨b, off + k * 3, none⟩ = some (.string (l[k]!).f0) := hcs k hk 0 _ rfl
      have d1 : w3.cell? ⟨b, off + k * 3 + 1, none⟩ = some (.string (l[k]!).f1) := hcs k hk 1 _ rfl
      have d2 : w3.cell? ⟨b, off + k * 3 + 2, none⟩ = some (.string (l[k]!).f2) := hcs k hk 2 _ rfl
      obtain ⟨y, hy⟩ : ∃ y, l[k]! = y := ⟨_, rfl⟩
      rw [hy] at HF d0 d1 d2
      clear hcs hy HC3
      obtain ⟨k0, k1, k2, f0, f1, f2⟩ := row3_facts hR3
      go_wp2
      rw [HF.out]
      refine bodyPost_ret (results_ct rfl _ _ w.heap.size 26 #[.string y.f0, .string y.f1, .string y.f2] (0, 0) _ rfl (blk_put (blk_put (blk_put hR3 0 _ rfl) 1 _ rfl) 2 _ rfl) Tryz.underlying26 rfl (by kernel_rfl)) rfl ?_
      exact ⟨rfl, ((HB3.out.setCell (p := ⟨w.heap.size, 0, none⟩) (Nat.le_refl _) _).setCell (p := ⟨w.heap.size, 1, none⟩) (Nat.le_refl _) _).setCell (p := ⟨w.heap.size, 2, none⟩) (Nat.le_refl _) _⟩
def refs_Find.f (l0 : List S26) (a1 : ByteArray) : Option (ByteArray × ByteArray × ByteArray × Bool) := if a1.size ≤ 65536 then some ((fnd l0 (lbl a1.data.toList)).1.f0, (fnd l0 (lbl a1.data.toList)).1.f1, (fnd l0 (lbl a1.data.toList)).1.f2, (fnd l0 (lbl a1.data.toList)).2) else none
theorem refs_Find.calls (A0 : Option Addr) (c0 : Nat) (l0 : List S26) (a1 : ByteArray) (r1 r2 r3 : ByteArray) (r4 : Bool) (w : World) (hLd : Laid w) (hr0 : Kd.C k26 w A0 l0.length l0) (hc0 : l0.length ≤ c0) (h : refs_Find.f l0 a1 = some (r1, r2, r3, r4)) :
    Calls Tryz.prog 10 #[.slice A0 l0.length c0, .string a1] w fun e w' => e = .returned (.tuple #[.agg #[.string r1, .string r2, .string r3], .bool r4]) ∧ Below w.heap.size w w' := by
  unfold refs_Find.f at h
  split at h
  · rename_i hc
    have h2 := Option.some.inj h
    simp only [Prod.mk.injEq] at h2
    obtain ⟨rfl, rfl, rfl, rfl⟩ := h2
    exact find_walk A0 c0 l0 a1 w hLd hr0 hc
  · cases h
end Go.Proofs.YtekifcbokdidlaaGreatDoor.PA
