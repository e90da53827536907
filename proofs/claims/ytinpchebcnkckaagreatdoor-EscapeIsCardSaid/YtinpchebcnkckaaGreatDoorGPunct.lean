/-
  The contract of class.Punct. No condition.
-/
import Derived.Test.YtinpchebcnkckaaGreatDoorPBase
import Derived.Test.YtinpchebcnkckaaGreatDoorPAx0
import Derived.WalkKit
import Derived.BigCall
import Derived.Lib.Hide
import Derived.ChangeKeysEq
import Derived.KernelRfl
namespace Go.Proofs.YtinpchebcnkckaaGreatDoor.PA
open Go.RowKit Go.Proofs.YtinpchebcnkckaaGreatDoor.Pl Go.Proofs.YtinpchebcnkckaaGreatDoorW.PrintWords Go.Proofs.YtinpchebcnkckaaGreatDoorW.PrintLast Go.Proofs.YtinpchebcnkckaaGreatDoorW.PrintMore
set_option linter.unusedVariables false

/-- The spans of signs. -/
def spn : List (Nat × Nat) := [(33, 47), (58, 64), (91, 96), (123, 126), (161, 169), (171, 172), (174, 177), (180, 180), (182, 184), (187, 187), (191, 191), (215, 215), (247, 247), (8208, 8231), (8240, 8286), (8352, 8384), (12289, 12291), (12296, 12319), (65281, 65295)]
def inS (r : Int) (e : Nat × Nat) : Bool := decide ((e.1 : Int) ≤ r) && decide (r ≤ (e.2 : Int))
def punct (r : Int) : Bool := spn.any (inS r)
set_option maxHeartbeats 1000000 in
theorem has_any (lo hi r : Int) (w : World) : Calls Tryz.prog 41 #[.agg #[.int .i32 lo, .int .i32 hi], .int .i32 r] w fun e w' => e = .returned (.bool (decide (lo ≤ r) && decide (r ≤ hi))) ∧ Below w.heap.size w w' := by
  by_cases h1 : lo ≤ r
  · by_cases h2 : r ≤ hi
    · rw [decide_eq_true h1, decide_eq_true h2]
      go_enter Tryz.func41, Tryz.ntmps41
      go_wp2
      go_ret
      exact ⟨rfl, (Below.refl _ _).alloc (Nat.le_refl _) _⟩
    · rw [decide_eq_true h1, decide_eq_false h2]
      have q := decide_eq_false h2
      go_enter Tryz.func41, Tryz.ntmps41
      go_wp2
      go_ret
      exact ⟨rfl, (Below.refl _ _).alloc (Nat.le_refl _) _⟩
  · rw [decide_eq_false h1]
    have q := decide_eq_false h1
    go_enter Tryz.func41, Tryz.ntmps41
    go_wp2
    go_ret
    exact ⟨rfl, (Below.refl _ _).alloc (Nat.le_refl _) _⟩
def spCells : Array Value := #[Value.int .i32 33, Value.int .i32 47, Value.int .i32 58, Value.int .i32 64, Value.int .i32 91, Value.int .i32 96, Value.int .i32 123, Value.int .i32 126, Value.int .i32 161, Value.int .i32 169, Value.int .i32 171, Value.int .i32 172, Value.int .i32 174, Value.int .i32 177, Value.int .i32 180, Value.int .i32 180, Value.int .i32 182, Value.int .i32 184, Value.int .i32 187, Value.int .i32 187, Value.int .i32 191, Value.int .i32 191, Value.int .i32 215, Value.int .i32 215, Value.int .i32 247, Value.int .i32 247, Value.int .i32 8208, Value.int .i32 8231, Value.int .i32 8240, Value.int .i32 8286, Value.int .i32 8352, Value.int .i32 8384, Value.int .i32 12289, Value.int .i32 12291, Value.int .i32 12296, Value.int .i32 12319, Value.int .i32 65281, Value.int .i32 65295]
theorem spDesc : Tryz.prog.underlying 72 = some (.array 19 71) := by kernel_rfl
theorem spSize : Tryz.prog.cellsOf 71 = 2 := by kernel_rfl
theorem spInfo : ∃ i, Tryz.prog.info? 71 = some i := by
  cases h : Tryz.prog.info? 71 with
  | none => exact absurd (show (Tryz.prog.info? 71).isSome = true by kernel_rfl) (by rw [h]; decide)
  | some i => exact ⟨i, rfl⟩
theorem spAgg (w : World) : (isAgg 71).run Tryz.prog w = .ok true w := by kernel_rfl
theorem sp_cut : ∀ k : Nat, k < 19 → spCells.extract (k * 2) (k * 2 + 2) = #[.int .i32 ((spn.getD k (0, 0)).1 : Int), .int .i32 ((spn.getD k (0, 0)).2 : Int)] := by
  intro k hk
  have : k = 0 ∨ k = 1 ∨ k = 2 ∨ k = 3 ∨ k = 4 ∨ k = 5 ∨ k = 6 ∨ k = 7 ∨ k = 8 ∨ k = 9 ∨ k = 10 ∨ k = 11 ∨ k = 12 ∨ k = 13 ∨ k = 14 ∨ k = 15 ∨ k = 16 ∨ k = 17 ∨ k = 18 := by omega
  rcases this with rfl | rfl | rfl | rfl | rfl | rfl | rfl | rfl | rfl | rfl | rfl | rfl | rfl | rfl | rfl | rfl | rfl | rfl | rfl <;> rfl
theorem sp_index (k : Nat) (hk : k < 19) (w : World) : (Instr.index 72 (.agg spCells) (.int .i64 k)).run Tryz.prog w = .ok (.agg #[.int .i32 ((spn.getD k (0, 0)).1 : Int), .int .i32 ((spn.getD k (0, 0)).2 : Int)]) w := by
  obtain ⟨i, hi⟩ := spInfo
  have h3 := sp_cut k hk
  generalize hE : spCells = E at h3 ⊢
  clear hE
  simp [Instr.index, asIntOf, run_underlying spDesc, hk, part, run_sizeOf w hi, spSize, h3, go_sem]
theorem any_snoc (r : Int) (k : Nat) (hk : k < spn.length) : (spn.take (k + 1)).any (inS r) = ((spn.take k).any (inS r) || inS r (spn.getD k (0, 0))) := by
  rw [List.take_succ_eq_append_getElem hk, List.any_append, List.getD_eq_getElem?_getD, List.getElem?_eq_getElem hk]
  simp
set_option maxHeartbeats 4000000 in
set_option maxRecDepth 100000 in
theorem punct_walk (r : Int) (w : World) : Calls Tryz.prog 30 #[.int .i32 r] w fun e w' => e = .returned (.bool (punct r)) ∧ Below w.heap.size w w' := by
  obtain ⟨R, hR⟩ : ∃ R, punct r = R := ⟨_, rfl⟩
  rw [hR]
  have HR := Lib.hid hR
  clear hR
  go_enter Tryz.func30, Tryz.ntmps30
  go_wp2
  go_loopw [25] (fun vi wr => ∃ k : Nat, vi = .int .i64 k ∧ k ≤ 19 ∧ Hid ((spn.take k).any (inS r) = false) ∧ Hid (Below w.heap.size w wr))
    (fun vi _ => 19 - (intOf vi).toNat)
  case atStart => exact ⟨0, rfl, by omega, rfl, Below.refl _ _⟩
  case round =>
    obtain ⟨k, rfl, hk, HP, HB⟩ := hrel
    by_cases hlt : k < 19
    · have hix := fun w => sp_index k hlt w
      simp only [spCells] at hix
      have hsn := any_snoc r k hlt
      rw [HP.out, Bool.false_or] at hsn
      have hmem : inS r (spn.getD k (0, 0)) = true → punct r = true := by
        intro h
        unfold punct
        rw [List.any_eq_true]
        refine ⟨spn.getD k (0, 0), ?_, h⟩
        rw [List.getD_eq_getElem?_getD, List.getElem?_eq_getElem (show k < spn.length from hlt)]
        exact List.getElem_mem _
      have hin : inS r (spn.getD k (0, 0)) = (decide (((spn.getD k (0, 0)).1 : Int) ≤ r) && decide (r ≤ ((spn.getD k (0, 0)).2 : Int))) := rfl
      generalize spn.getD k (0, 0) = e at hix hsn hmem hin
      have hsz := HB.out.size
      have HM := Lib.hid hmem
      have HS := Lib.hid hsn
      have HI := Lib.hid hin
      clear hmem hsn hin HP
      go_wp2_with fail
      refine (has_any _ _ _ _).mono ?_
      rintro e2 w2 ⟨rfl, hb2⟩
      have HB2 := Lib.hid ((HB.out.alloc hsz _).trans (hb2.mono (by have := hsz; simp; omega)))
      clear hb2 HB
      rw [← HI.out]
      cases hb : inS r e with
      | true =>
        have HT := Lib.hid (HM.out hb)
        clear HM HS HI hb hix
        go_wp2
        go_ret
        exact ⟨congrArg (fun z => Ending.returned (.bool z)) (HT.out.symm.trans HR.out), HB2.out⟩
      | false =>
        have HF := Lib.hid (HS.out.trans hb)
        clear HM HS HI hb hix
        go_wp2
        go_roundw
        case rel => exact ⟨k + 1, by first | rfl | simp, by omega, HF, HB2⟩
        case measure => simp [intOf]; omega
    · obtain rfl : k = 19 := by omega
      have HT := Lib.hid (show punct r = false from HP.out)
      go_wp2
      go_ret
      exact ⟨congrArg (fun z => Ending.returned (.bool z)) (HT.out.symm.trans HR.out), HB.out⟩
def class_Punct.f (a0 : Int) : Option Bool := some (punct a0)
theorem class_Punct.calls (a0 : Int) (r : Bool) (w : World) (h : class_Punct.f a0 = some r) :
    Calls Tryz.prog 30 #[.int .i32 a0] w fun e w' => e = .returned (.bool r) ∧ Below w.heap.size w w' := by
  obtain rfl := Option.some.inj h
  exact punct_walk a0 w
end Go.Proofs.YtinpchebcnkckaaGreatDoor.PA
