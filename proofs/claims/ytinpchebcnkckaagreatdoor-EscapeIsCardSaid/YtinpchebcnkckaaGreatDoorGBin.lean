/-
  The contracts of cmp.Compare at texts and of the comparing function of entity.Named. No condition.
-/
import Derived.Test.YtinpchebcnkckaaGreatDoorEntTab
import Derived.Test.YtinpchebcnkckaaGreatDoorPAx0
import Derived.WalkKit
import Derived.WalkLawsBesides
import Derived.BigCall
import Derived.Lib.Hide
import Derived.KernelRfl
namespace Go.Proofs.YtinpchebcnkckaaGreatDoor.PA
open Go.RowKit Go.Proofs.YtinpchebcnkckaaGreatDoor.Pl Go.Proofs.YtinpchebcnkckaaGreatDoorW.PrintWords Go.Proofs.YtinpchebcnkckaaGreatDoorW.PrintLast Go.Proofs.YtinpchebcnkckaaGreatDoorW.PrintMore
set_option linter.unusedVariables false

/-- Texts compared. -/
def cmpT (x y : List UInt8) : Int := if Op.bytesLess x y = true then -1 else if x = y then 0 else 1
theorem isNaN_any (x : ByteArray) (w : World) : Calls Tryz.prog 78 #[.string x] w fun e w' => e = .returned (.bool false) ∧ w = w' := by
  go_enter Tryz.func78, Tryz.ntmps78
  go_wp2
  go_ret
  exact ⟨by simp, rfl⟩
theorem compare_any (x y : ByteArray) (w : World) : Calls Tryz.prog 65 #[.string x, .string y] w fun e w' => e = .returned (.int .i64 (cmpT x.toList y.toList)) ∧ w = w' := by
  have hlg : cmpT x.toList y.toList = if Op.bytesLess x.toList y.toList = true then -1 else if x.toList = y.toList then 0 else 1 := rfl
  cases h1 : Op.bytesLess x.toList y.toList with
  | true =>
    rw [h1, if_pos rfl] at hlg
    have HL := Lib.hid hlg
    clear hlg
    go_enter Tryz.func65, Tryz.ntmps65
    go_wp2_with (first | (go_at_call 78; refine (isNaN_any _ _).mono ?_; rintro e w' ⟨rfl, rfl⟩))
    go_ret
    exact ⟨congrArg (fun z => Ending.returned (.int .i64 z)) HL.out.symm, rfl⟩
  | false =>
    rw [h1, if_neg (by decide)] at hlg
    by_cases h2 : x.toList = y.toList
    · rw [if_pos h2] at hlg
      have h3 : (x.toList == y.toList) = true := beq_iff_eq.2 h2
      have HL := Lib.hid hlg
      clear hlg h2
      go_enter Tryz.func65, Tryz.ntmps65
      go_wp2_with (first | (go_at_call 78; refine (isNaN_any _ _).mono ?_; rintro e w' ⟨rfl, rfl⟩))
      go_ret
      exact ⟨congrArg (fun z => Ending.returned (.int .i64 z)) HL.out.symm, rfl⟩
    · rw [if_neg h2] at hlg
      have h3 : (x.toList == y.toList) = false := beq_eq_false_iff_ne.2 h2
      have HL := Lib.hid hlg
      clear hlg h2
      go_enter Tryz.func65, Tryz.ntmps65
      go_wp2_with (first | (go_at_call 78; refine (isNaN_any _ _).mono ?_; rintro e w' ⟨rfl, rfl⟩))
      go_ret
      exact ⟨congrArg (fun z => Ending.returned (.int .i64 z)) HL.out.symm, rfl⟩
theorem named1_any (x y : ByteArray) (n : Int) (w : World) : Calls Tryz.prog 64 #[.agg #[.string x, .int .i32 n], .string y] w fun e w' => e = .returned (.int .i64 (cmpT x.toList y.toList)) ∧ Below w.heap.size w w' := by
  have HC := Lib.hid (compare_any x y)
  go_enter Tryz.func64, Tryz.ntmps64
  go_wp2_with (first | (go_at_call 65; refine (HC.out _).mono ?_; rintro e w' ⟨rfl, rfl⟩))
  go_ret
  exact ⟨rfl, (Below.refl _ _).alloc (Nat.le_refl _) _⟩
/-- The name at a place. -/
def enm (k : Nat) : List UInt8 := (entL.getD k ([], 0)).1
def enn (k : Nat) : Int := (((entL.getD k ([], 0)).2 : Nat) : Int)
/-- The binary search: rounds, from, to. -/
def bsr (t : List UInt8) : Nat → Nat → Nat → Nat
  | 0, i, _ => i
  | f + 1, i, j => if i < j then if cmpT (enm ((i + j) / 2)) t < 0 then bsr t f ((i + j) / 2 + 1) j else bsr t f i ((i + j) / 2) else i
theorem bsr_end (t : List UInt8) (f i j : Nat) (h : ¬ i < j) : bsr t f i j = i := by
  cases f with
  | zero => rfl
  | succ f => rw [bsr, if_neg h]
/-- The table lies in a block. -/
def EntAt (b : Nat) (w : World) : Prop := ∀ k, k < 183 → w.cell? ⟨b, k * 2, none⟩ = some (.string (B (enm k))) ∧ w.cell? ⟨b, k * 2 + 1, none⟩ = some (.int .i32 (enn k))
theorem EntAt.go {b : Nat} {w w' : World} (h : EntAt b w) (hb : Below w.heap.size w w') (hlt : b < w.heap.size) : EntAt b w' := fun k hk =>
  ⟨(hb.cell (p := ⟨b, k * 2, none⟩) hlt).trans (h k hk).1, (hb.cell (p := ⟨b, k * 2 + 1, none⟩) hlt).trans (h k hk).2⟩
set_option maxHeartbeats 4000000 in
set_option maxRecDepth 100000 in
theorem bsearch_any (b : Nat) (t : List UInt8) (w : World) (hE : EntAt b w) (hb : b < w.heap.size) :
    Calls Tryz.prog 63 #[.slice (some ⟨b, 0, none⟩) 183 183, .string (B t), .func (.func 64) #[] #[]] w fun e w' =>
      e = .returned (.tuple #[.int .i64 ((bsr t 183 0 183 : Nat) : Int), .bool (decide (bsr t 183 0 183 < 183 ∧ enm (bsr t 183 0 183) = t))]) ∧ Below w.heap.size w w' := by
  obtain ⟨R, hR⟩ : ∃ R, bsr t 183 0 183 = R := ⟨_, rfl⟩
  rw [hR]
  have HR := Lib.hid hR
  have HE := Lib.hid hE
  clear hR hE
  go_enter Tryz.func63, Tryz.ntmps63
  go_wp2
  go_loopw [9, 10] (fun vi vj wr => ∃ (f i j : Nat), vi = .int .i64 i ∧ vj = .int .i64 j ∧ i ≤ j ∧ j ≤ 183 ∧ Hid (j - i ≤ f ∧ bsr t f i j = R) ∧ Hid (Below w.heap.size w wr))
    (fun vi vj _ => (intOf vj).toNat - (intOf vi).toNat)
  case atStart => exact ⟨183, 0, 183, rfl, rfl, by omega, by omega, ⟨by omega, HR.out⟩, Below.refl _ _⟩
  case round =>
    obtain ⟨f, i, j, rfl, rfl, hij, hj, HF, HB⟩ := hrel
    by_cases hlt : i < j
    · obtain ⟨hf, hr⟩ := HF.out
      clear HF
      have hEk := (HE.out.go HB.out hb) ((i + j) / 2) (by omega)
      have hsz := HB.out.size
      go_wp2_with fail
      refine (named1_any _ _ _ wr).mono ?_
      rintro e w2 ⟨rfl, hb2⟩
      rw [B_toList, B_toList]
      have HB2 := Lib.hid (HB.out.trans (hb2.mono hsz))
      obtain ⟨f, rfl⟩ : ∃ g, f = g + 1 := ⟨f - 1, by omega⟩
      rw [bsr, if_pos hlt] at hr
      obtain ⟨c, hc⟩ : ∃ c, cmpT (enm ((i + j) / 2)) t = c := ⟨_, rfl⟩
      rw [hc] at hr ⊢
      clear hEk hsz hb2 HB HE hc
      by_cases hc0 : c < 0
      · rw [if_pos hc0] at hr
        have HR2 := Lib.hid hr
        clear hr
        go_wp2
        go_roundw
        case rel => exact ⟨f, (i + j) / 2 + 1, j, by first | rfl | (congr 1; omega), rfl, by omega, hj, ⟨by omega, HR2.out⟩, HB2⟩
        case measure => simp [intOf]; omega
      · rw [if_neg hc0] at hr
        have HR2 := Lib.hid hr
        clear hr
        have hc1 : 0 ≤ c := by omega
        go_wp2
        go_roundw
        case rel => exact ⟨f, i, (i + j) / 2, rfl, by first | rfl | (congr 1; omega), by omega, by omega, ⟨by omega, HR2.out⟩, HB2⟩
        case measure => simp [intOf]; omega
    · obtain ⟨hf, hr⟩ := HF.out
      rw [bsr_end t f i j hlt] at hr
      obtain rfl : i = R := hr
      have hsz := HB.out.size
      clear HF HR
      by_cases h183 : i < 183
      · have hEk := (HE.out.go HB.out hb) i h183
        have hcz : cmpT (enm i) t = 0 ↔ enm i = t := by
          unfold cmpT
          constructor
          · intro h
            split at h
            · cases h
            · split at h
              · assumption
              · cases h
          · intro h
            rw [h]
            have hn : ∀ l : List UInt8, Op.bytesLess l l = false := by
              intro l
              induction l with
              | nil => rfl
              | cons x l ih =>
                have hx : ¬ x < x := by
                  intro h
                  exact absurd (UInt8.lt_iff_toNat_lt.1 h) (Nat.lt_irrefl _)
                simp [Op.bytesLess, ih, hx]
            rw [hn, if_neg (by decide), if_pos rfl]
        have hdec : decide (i < 183 ∧ enm i = t) = decide (cmpT (enm i) t = 0) := by rw [decide_eq_decide, hcz]; exact ⟨fun h => h.2, fun h => ⟨h183, h⟩⟩
        have HDEC := Lib.hid hdec
        clear hdec hcz
        have hd1 : decide (i < 183) = true := decide_eq_true h183
        go_wp2_with fail
        refine (named1_any _ _ _ wr).mono ?_
        rintro e w2 ⟨rfl, hb2⟩
        rw [B_toList, B_toList]
        obtain ⟨c, hc⟩ : ∃ c, cmpT (enm i) t = c := ⟨_, rfl⟩
        rw [hc] at HDEC ⊢
        have HB2 := Lib.hid (HB.out.trans (hb2.mono hsz))
        clear hEk hsz hb2 HB HE hc hd1
        cases hcd : decide (c = 0) with
        | true =>
          rw [hcd] at HDEC
          have hceq : (c == 0) = true := beq_iff_eq.2 (of_decide_eq_true hcd)
          clear hcd
          go_wp2
          go_ret2
          exact ⟨congrArg (fun z => Ending.returned (.tuple #[.int .i64 ((i : Nat) : Int), .bool z])) HDEC.out.symm, HB2.out⟩
        | false =>
          rw [hcd] at HDEC
          have hceq : (c == 0) = false := beq_eq_false_iff_ne.2 (of_decide_eq_false hcd)
          clear hcd
          go_wp2
          go_ret2
          exact ⟨congrArg (fun z => Ending.returned (.tuple #[.int .i64 ((i : Nat) : Int), .bool z])) HDEC.out.symm, HB2.out⟩
      · have hdec : decide (i < 183 ∧ enm i = t) = false := decide_eq_false (fun h => h183 h.1)
        have HDEC := Lib.hid hdec
        have hge : 183 ≤ i := by omega
        clear hdec HE
        have hd1 : decide (i < 183) = false := decide_eq_false h183
        go_wp2
        go_ret2
        exact ⟨by first | exact congrArg (fun z => Ending.returned (.tuple #[.int .i64 ((i : Nat) : Int), .bool z])) HDEC.out.symm | rfl | simp, HB.out⟩
end Go.Proofs.YtinpchebcnkckaaGreatDoor.PA
