/-
  Texts of the proof of LinkReads, part 2 of 5: contracts and plain laws. Conditions: see each statement.
-/
import Derived.Test.YtjobchgncdgfaaaGreatDoorSLinkReads1
import Derived.WalkKit
import Derived.WalkLawsBesides
import Derived.BigCall
import Derived.Lib.Hide
import Derived.KernelRfl
import Derived.Lib.SplitLaws
import Derived.Lib.IndexMore
import Derived.ChangeKeysEq
import Derived.Laws.Cover4
import Derived.OneCell
import Derived.Great.BuildSlice
import Derived.BigQuiet
import Derived.Deep.QuietTactic
import Derived.Deep.RegionHeld3
set_option linter.unusedVariables false
namespace Go.Proofs.YtjobchgncdgfaaaGreatDoor.PA
open Go.RowKit Go.Proofs.YtjobchgncdgfaaaGreatDoor.Pl Go.Proofs.YtjobchgncdgfaaaGreatDoorW.PrintWords Go.Proofs.YtjobchgncdgfaaaGreatDoorW.PrintLast Go.Proofs.YtjobchgncdgfaaaGreatDoorW.PrintMore
set_option linter.unusedVariables false

/-- Texts compared. -/
def cmpT (x y : List UInt8) : Int := if Op.bytesLess x y = true then -1 else if x = y then 0 else 1
theorem isNaN_any (x : ByteArray) (w : World) : Calls Tryz.prog 95 #[.string x] w fun e w' => e = .returned (.bool false) ∧ w = w' := by
  go_enter Tryz.func95, Tryz.ntmps95
  go_wp2
  go_ret
  exact ⟨by simp, rfl⟩
theorem compare_any (x y : ByteArray) (w : World) : Calls Tryz.prog 83 #[.string x, .string y] w fun e w' => e = .returned (.int .i64 (cmpT x.toList y.toList)) ∧ w = w' := by
  have hlg : cmpT x.toList y.toList = if Op.bytesLess x.toList y.toList = true then -1 else if x.toList = y.toList then 0 else 1 := rfl
  cases h1 : Op.bytesLess x.toList y.toList with
  | true =>
    rw [h1, if_pos rfl] at hlg
    have HL := Lib.hid hlg
    clear hlg
    go_enter Tryz.func83, Tryz.ntmps83
    go_wp2_with (first | (go_at_call 95; refine (isNaN_any _ _).mono ?_; rintro e w' ⟨rfl, rfl⟩))
    go_ret
    exact ⟨congrArg (fun z => Ending.returned (.int .i64 z)) HL.out.symm, rfl⟩
  | false =>
    rw [h1, if_neg (by decide)] at hlg
    by_cases h2 : x.toList = y.toList
    · rw [if_pos h2] at hlg
      have h3 : (x.toList == y.toList) = true := beq_iff_eq.2 h2
      have HL := Lib.hid hlg
      clear hlg h2
      go_enter Tryz.func83, Tryz.ntmps83
      go_wp2_with (first | (go_at_call 95; refine (isNaN_any _ _).mono ?_; rintro e w' ⟨rfl, rfl⟩))
      go_ret
      exact ⟨congrArg (fun z => Ending.returned (.int .i64 z)) HL.out.symm, rfl⟩
    · rw [if_neg h2] at hlg
      have h3 : (x.toList == y.toList) = false := beq_eq_false_iff_ne.2 h2
      have HL := Lib.hid hlg
      clear hlg h2
      go_enter Tryz.func83, Tryz.ntmps83
      go_wp2_with (first | (go_at_call 95; refine (isNaN_any _ _).mono ?_; rintro e w' ⟨rfl, rfl⟩))
      go_ret
      exact ⟨congrArg (fun z => Ending.returned (.int .i64 z)) HL.out.symm, rfl⟩
theorem named1_any (x y : ByteArray) (n : Int) (w : World) : Calls Tryz.prog 82 #[.agg #[.string x, .int .i32 n], .string y] w fun e w' => e = .returned (.int .i64 (cmpT x.toList y.toList)) ∧ Below w.heap.size w w' := by
  have HC := Lib.hid (compare_any x y)
  go_enter Tryz.func82, Tryz.ntmps82
  go_wp2_with (first | (go_at_call 83; refine (HC.out _).mono ?_; rintro e w' ⟨rfl, rfl⟩))
  go_ret
  exact ⟨rfl, (Below.refl _ _).alloc (Nat.le_refl _) _⟩
/-- The name at a place. -/
def enm (k : Nat) : List UInt8 := (entL.getD k ([], 0)).1
def enn (k : Nat) : Int := (((entL.getD k ([], 0)).2 : Nat) : Int)
/-- The binary search: rounds, from, to. -/
def bsr (t : List UInt8) : Nat → Nat → Nat → Nat
  | 0, i, _ => i
  | f + 1, i, j => if i < j then if cmpT (enm ((i + j) / 2)) t < 0 then bsr t f ((i + j) / 2 + 1) j else bsr t f i ((i + j) / 2) else i
theorem bsr_end (t : List UInt8) (f i j : Nat) (h : ¬ i < j) : bsr t f i j = i := by
  cases f with
  | zero => rfl
  | succ f => rw [bsr, if_neg h]
/-- The table lies in a block. -/
def EntAt (b : Nat) (w : World) : Prop := ∀ k, k < 183 → w.cell? ⟨b, k * 2, none⟩ = some (.string (B (enm k))) ∧ w.cell? ⟨b, k * 2 + 1, none⟩ = some (.int .i32 (enn k))
theorem EntAt.go {b : Nat} {w w' : World} (h : EntAt b w) (hb : Below w.heap.size w w') (hlt : b < w.heap.size) : EntAt b w' := fun k hk =>
  ⟨(hb.cell (p := ⟨b, k * 2, none⟩) hlt).trans (h k hk).1, (hb.cell (p := ⟨b, k * 2 + 1, none⟩) hlt).trans (h k hk).2⟩
set_option maxHeartbeats 4000000 in
set_option maxRecDepth 100000 in
theorem bsearch_any (b : Nat) (t : List UInt8) (w : World) (hE : EntAt b w) (hb : b < w.heap.size) :
    Calls Tryz.prog 81 #[.slice (some ⟨b, 0, none⟩) 183 183, .string (B t), .func (.func 82) #[] #[]] w fun e w' =>
      e = .returned (.tuple #[.int .i64 ((bsr t 183 0 183 : Nat) : Int), .bool (decide (bsr t 183 0 183 < 183 ∧ enm (bsr t 183 0 183) = t))]) ∧ Below w.heap.size w w' := by
  obtain ⟨R, hR⟩ : ∃ R, bsr t 183 0 183 = R := ⟨_, rfl⟩
  rw [hR]
  have HR := Lib.hid hR
  have HE := Lib.hid hE
  clear hR hE
  go_enter Tryz.func81, Tryz.ntmps81
  go_wp2
  go_loopw [9, 10] (fun vi vj wr => ∃ (f i j : Nat), vi = .int .i64 i ∧ vj = .int .i64 j ∧ i ≤ j ∧ j ≤ 183 ∧ Hid (j - i ≤ f ∧ bsr t f i j = R) ∧ Hid (Below w.heap.size w wr))
    (fun vi vj _ => (intOf vj).toNat - (intOf vi).toNat)
  case atStart => exact ⟨183, 0, 183, rfl, rfl, by omega, by omega, ⟨by omega, HR.out⟩, Below.refl _ _⟩
  case round =>
    obtain ⟨f, i, j, rfl, rfl, hij, hj, HF, HB⟩ := hrel
    by_cases hlt : i < j
    · obtain ⟨hf, hr⟩ := HF.out
      clear HF
      have hEk := (HE.out.go HB.out hb) ((i + j) / 2) (by omega)
      have hsz := HB.out.size
      go_wp2_with fail
      refine (named1_any _ _ _ wr).mono ?_
      rintro e w2 ⟨rfl, hb2⟩
      rw [B_toList, B_toList]
      have HB2 := Lib.hid (HB.out.trans (hb2.mono hsz))
      obtain ⟨f, rfl⟩ : ∃ g, f = g + 1 := ⟨f - 1, by omega⟩
      rw [bsr, if_pos hlt] at hr
      obtain ⟨c, hc⟩ : ∃ c, cmpT (enm ((i + j) / 2)) t = c := ⟨_, rfl⟩
      rw [hc] at hr ⊢
      clear hEk hsz hb2 HB HE hc
      by_cases hc0 : c < 0
      · rw [if_pos hc0] at hr
        have HR2 := Lib.hid hr
        clear hr
        go_wp2
        go_roundw
        case rel => exact ⟨f, (i + j) / 2 + 1, j, by first | rfl | (congr 1; omega), rfl, by omega, hj, ⟨by omega, HR2.out⟩, HB2⟩
        case measure => simp [intOf]; omega
      · rw [if_neg hc0] at hr
        have HR2 := Lib.hid hr
        clear hr
        have hc1 : 0 ≤ c := by omega
        go_wp2
        go_roundw
        case rel => exact ⟨f, i, (i + j) / 2, rfl, by first | rfl | (congr 1; omega), by omega, by omega, ⟨by omega, HR2.out⟩, HB2⟩
        case measure => simp [intOf]; omega
    · obtain ⟨hf, hr⟩ := HF.out
      rw [bsr_end t f i j hlt] at hr
      obtain rfl : i = R := hr
      have hsz := HB.out.size
      clear HF HR
      by_cases h183 : i < 183
      · have hEk := (HE.out.go HB.out hb) i h183
        have hcz : cmpT (enm i) t = 0 ↔ enm i = t := by
          unfold cmpT
          constructor
          · intro h
            split at h
            · cases h
            · split at h
              · assumption
              · cases h
          · intro h
            rw [h]
            have hn : ∀ l : List UInt8, Op.bytesLess l l = false := by
              intro l
              induction l with
              | nil => rfl
              | cons x l ih =>
                have hx : ¬ x < x := by
                  intro h
                  exact absurd (UInt8.lt_iff_toNat_lt.1 h) (Nat.lt_irrefl _)
                simp [Op.bytesLess, ih, hx]
            rw [hn, if_neg (by decide), if_pos rfl]
        have hdec : decide (i < 183 ∧ enm i = t) = decide (cmpT (enm i) t = 0) := by rw [decide_eq_decide, hcz]; exact ⟨fun h => h.2, fun h => ⟨h183, h⟩⟩
        have HDEC := Lib.hid hdec
        clear hdec hcz
        have hd1 : decide (i < 183) = true := decide_eq_true h183
        go_wp2_with fail
        refine (named1_any _ _ _ wr).mono ?_
        rintro e w2 ⟨rfl, hb2⟩
        rw [B_toList, B_toList]
        obtain ⟨c, hc⟩ : ∃ c, cmpT (enm i) t = c := ⟨_, rfl⟩
        rw [hc] at HDEC ⊢
        have HB2 := Lib.hid (HB.out.trans (hb2.mono hsz))
        clear hEk hsz hb2 HB HE hc hd1
        cases hcd : decide (c = 0) with
        | true =>
          rw [hcd] at HDEC
          have hceq : (c == 0) = true := beq_iff_eq.2 (of_decide_eq_true hcd)
          clear hcd
          go_wp2
          go_ret2
          exact ⟨congrArg (fun z => Ending.returned (.tuple #[.int .i64 ((i : Nat) : Int), .bool z])) HDEC.out.symm, HB2.out⟩
        | false =>
          rw [hcd] at HDEC
          have hceq : (c == 0) = false := beq_eq_false_iff_ne.2 (of_decide_eq_false hcd)
          clear hcd
          go_wp2
          go_ret2
          exact ⟨congrArg (fun z => Ending.returned (.tuple #[.int .i64 ((i : Nat) : Int), .bool z])) HDEC.out.symm, HB2.out⟩
      · have hdec : decide (i < 183 ∧ enm i = t) = false := decide_eq_false (fun h => h183 h.1)
        have HDEC := Lib.hid hdec
        have hge : 183 ≤ i := by omega
        clear hdec HE
        have hd1 : decide (i < 183) = false := decide_eq_false h183
        go_wp2
        go_ret2
        exact ⟨by first | exact congrArg (fun z => Ending.returned (.tuple #[.int .i64 ((i : Nat) : Int), .bool z])) HDEC.out.symm | rfl | simp, HB.out⟩
end Go.Proofs.YtjobchgncdgfaaaGreatDoor.PA

namespace Go.Proofs.YtjobchgncdgfaaaGreatDoor.PA
open Go.RowKit Go.Proofs.YtjobchgncdgfaaaGreatDoor.Pl Go.Proofs.YtjobchgncdgfaaaGreatDoorW.PrintWords Go.Proofs.YtjobchgncdgfaaaGreatDoorW.PrintLast Go.Proofs.YtjobchgncdgfaaaGreatDoorW.PrintMore
set_option linter.unusedVariables false

theorem flat2 {α β : Type} (f g : α → β) : ∀ (l : List α) (k : Nat), (l.flatMap fun e => [f e, g e])[k * 2]? = (l[k]?).map f ∧ (l.flatMap fun e => [f e, g e])[k * 2 + 1]? = (l[k]?).map g
  | [], k => by simp
  | x :: l, 0 => by simp
  | x :: l, k + 1 => by
    have ih := flat2 f g l k
    rw [show (k + 1) * 2 = k * 2 + 2 by omega, show k * 2 + 2 + 1 = (k * 2 + 1) + 2 by omega]
    simp only [List.flatMap_cons, List.cons_append, List.nil_append, List.getElem?_cons_succ]
    exact ih
theorem ent_at {b : Nat} {w : World} {t : TypeId} {fr : Nat × Nat} (h : w.heap[b]? = some (.cells entCells t fr)) : EntAt b w := by
  intro k hk
  have hl : k < entL.length := by rw [entL_len]; exact hk
  have h2 := flat2 (fun e : List UInt8 × Nat => Value.string (B e.1)) (fun e => Value.int .i32 (e.2 : Int)) entL k
  rw [List.getElem?_eq_getElem hl] at h2
  have e1 : enm k = entL[k].1 := by unfold enm; rw [List.getD_eq_getElem?_getD, List.getElem?_eq_getElem hl]; rfl
  have e2 : enn k = ((entL[k].2 : Nat) : Int) := by unfold enn; rw [List.getD_eq_getElem?_getD, List.getElem?_eq_getElem hl]; rfl
  rw [e1, e2]
  constructor
  · rw [cell_of_row w b _ entCells t fr h]
    unfold entCells
    rw [List.getElem?_toArray]
    exact h2.1
  · rw [cell_of_row w b _ entCells t fr h]
    unfold entCells
    rw [List.getElem?_toArray]
    exact h2.2
theorem ret_sb {a a' : ByteArray} {b b' : Bool} (h1 : a' = a) (h2 : b' = b) : Ending.returned (.tuple #[.string a, .bool b]) = Ending.returned (.tuple #[.string a', .bool b']) := by rw [h1, h2]
/-- The character of a name. -/
def nmd (t : List UInt8) : ByteArray × Bool := if bsr t 183 0 183 < 183 ∧ enm (bsr t 183 0 183) = t then (Go.Utf8.encode (enn (bsr t 183 0 183)), true) else (⟨#[]⟩, false)
set_option maxHeartbeats 4000000 in
set_option maxRecDepth 100000 in
theorem named_walk (t : List UInt8) (w : World) : Calls Tryz.prog 66 #[.string (B t)] w fun e w' => e = .returned (.tuple #[.string (nmd t).1, .bool (nmd t).2]) ∧ Below w.heap.size w w' := by
  have HT := Lib.hid (table_walk w)
  obtain ⟨⟨q1, q2⟩, hq⟩ : ∃ q, nmd t = q := ⟨_, rfl⟩
  rw [hq]
  have HQ := Lib.hid hq
  clear hq
  go_enter Tryz.func66, Tryz.ntmps66
  go_wp2_with fail
  refine HT.out.mono ?_
  rintro e w1 ⟨rfl, hb1⟩
  have hg := setRow_heap (w1.alloc (.cells Tryz.zeroCells85 85)) w1.heap.size Tryz.zeroCells85 entCells 85 (0, 0) (World.alloc_heap_new w1 _)
  have hB := hb1.trans (below_setRow ((Below.refl _ w1).alloc (Nat.le_refl _) (.cells Tryz.zeroCells85 85)) (Nat.le_refl _) entCells |>.mono hb1.size)
  have hz : ((w1.alloc (.cells Tryz.zeroCells85 85)).setRow w1.heap.size entCells).heap.size = w1.heap.size + 1 := by rw [setRow_size, World.size_alloc]
  go_wp2_with (refine wpList_store_row rfl _ _ _ rfl w1.heap.size entCells rfl rfl 85 Tryz.zeroCells85 (World.alloc_heap_new w1 _) (tab_info.trans (congrArg some tab_len.symm)) (tab_zero.trans tab_len.symm) tab_one ?_; generalize ((w1.alloc (.cells Tryz.zeroCells85 85)).setRow w1.heap.size entCells) = W2 at hg hB hz ⊢)
  refine (bsearch_any w1.heap.size t W2 (ent_at hg) (by omega)).mono ?_
  rintro e w3 ⟨rfl, hb3⟩
  have hE3 := (ent_at hg).go hb3 (by omega)
  have HB := Lib.hid (hB.trans (hb3.mono hB.size))
  have hnm : (q1, q2) = if bsr t 183 0 183 < 183 ∧ enm (bsr t 183 0 183) = t then (Go.Utf8.encode (enn (bsr t 183 0 183)), true) else (⟨#[]⟩, false) := HQ.out.symm
  clear hg hB hb3 hz hb1
  generalize bsr t 183 0 183 = R at hnm ⊢
  by_cases hc : R < 183 ∧ enm R = t
  · rw [if_pos hc] at hnm
    rw [decide_eq_true hc]
    have HN := Lib.hid (Prod.mk.inj hnm)
    have hEk := hE3 R hc.1
    have h183 := hc.1
    have hd1 : decide (R < 183) = true := decide_eq_true hc.1
    clear hnm hc hE3
    go_wp2
    go_ret2
    exact ⟨ret_sb HN.out.1 HN.out.2, HB.out⟩
  · rw [if_neg hc] at hnm
    rw [decide_eq_false hc]
    have HN := Lib.hid (Prod.mk.inj hnm)
    clear hnm hc hE3
    go_wp2
    go_ret2
    exact ⟨ret_sb HN.out.1 HN.out.2, HB.out⟩
end Go.Proofs.YtjobchgncdgfaaaGreatDoor.PA

namespace Go.Proofs.YtjobchgncdgfaaaGreatDoor.PA
open Go.RowKit Go.Proofs.YtjobchgncdgfaaaGreatDoor.Pl Go.Proofs.YtjobchgncdgfaaaGreatDoorW.PrintWords Go.Proofs.YtjobchgncdgfaaaGreatDoorW.PrintLast Go.Proofs.YtjobchgncdgfaaaGreatDoorW.PrintMore
set_option linter.unusedVariables false

/-- A digit; a digit of sixteen. -/
def dg (x : UInt8) : Bool := decide (48 ≤ x.toNat ∧ x.toNat ≤ 57)
def hxd (x : UInt8) : Bool := decide (dOk 16 x)
theorem digit_any (x : UInt8) (w : World) : Calls Tryz.prog 69 #[.int .u8 (x.toNat : Int)] w fun e w' => e = .returned (.bool (dg x)) ∧ w = w' := by
  by_cases h1 : 48 ≤ x.toNat
  · by_cases h2 : x.toNat ≤ 57
    · have HD := Lib.hid (show dg x = true from decide_eq_true ⟨h1, h2⟩)
      have q1 : decide ((x.toNat : Int) ≤ 57) = true := decide_eq_true (by omega)
      go_enter Tryz.func69, Tryz.ntmps69
      go_wp2
      go_ret
      exact ⟨congrArg (fun z => Ending.returned (.bool z)) HD.out.symm, rfl⟩
    · have HD := Lib.hid (show dg x = false from decide_eq_false (fun h => h2 h.2))
      have h3 : 57 < x.toNat := by omega
      have q1 : decide ((x.toNat : Int) ≤ 57) = false := decide_eq_false (by omega)
      go_enter Tryz.func69, Tryz.ntmps69
      go_wp2
      go_ret
      exact ⟨congrArg (fun z => Ending.returned (.bool z)) HD.out.symm, rfl⟩
  · have HD := Lib.hid (show dg x = false from decide_eq_false (fun h => h1 h.1))
    have h3 : x.toNat < 48 := by omega
    go_enter Tryz.func69, Tryz.ntmps69
    go_wp2
    go_ret
    exact ⟨congrArg (fun z => Ending.returned (.bool z)) HD.out.symm, rfl⟩
theorem hexd_any (x : UInt8) (w : World) : Calls Tryz.prog 68 #[.int .u8 (x.toNat : Int)] w fun e w' => e = .returned (.bool (hxd x)) ∧ w = w' := by
  have hdg := digit_any x
  have h32 := or32 x
  cases hd : dg x with
  | true =>
    have HD := Lib.hid (show hxd x = true from decide_eq_true (.inl (of_decide_eq_true hd)))
    rw [hd] at hdg
    have HG := Lib.hid hdg
    clear hdg hd
    go_enter Tryz.func68, Tryz.ntmps68
    go_wp2_with (first | (go_at_call 69; refine (HG.out _).mono ?_; rintro e w' ⟨rfl, rfl⟩))
    go_ret
    exact ⟨congrArg (fun z => Ending.returned (.bool z)) HD.out.symm, rfl⟩
  | false =>
    have hnd := of_decide_eq_false hd
    rw [hd] at hdg
    have HG := Lib.hid hdg
    have hhx : hxd x = decide (97 ≤ (x.toNat ||| 32) ∧ (x.toNat ||| 32) ≤ 102) := by
      unfold hxd
      rw [decide_eq_decide]
      exact ⟨fun h => h.elim (fun h => absurd h hnd) (fun h => h.2), fun h => .inr ⟨rfl, h⟩⟩
    clear hdg hd hnd
    generalize (x.toNat ||| 32) = m at *
    by_cases h1 : 97 ≤ m
    · by_cases h2 : m ≤ 102
      · rw [decide_eq_true ⟨h1, h2⟩] at hhx
        have HD := Lib.hid hhx
        have q1 : decide ((m : Int) ≤ 102) = true := decide_eq_true (by omega)
        clear hhx
        go_enter Tryz.func68, Tryz.ntmps68
        go_wp2_with (first | (go_at_call 69; refine (HG.out _).mono ?_; rintro e w' ⟨rfl, rfl⟩))
        go_ret
        exact ⟨congrArg (fun z => Ending.returned (.bool z)) HD.out.symm, rfl⟩
      · rw [decide_eq_false (fun h => h2 h.2)] at hhx
        have HD := Lib.hid hhx
        have h3 : 102 < m := by omega
        have q1 : decide ((m : Int) ≤ 102) = false := decide_eq_false (by omega)
        clear hhx h2
        go_enter Tryz.func68, Tryz.ntmps68
        go_wp2_with (first | (go_at_call 69; refine (HG.out _).mono ?_; rintro e w' ⟨rfl, rfl⟩))
        go_ret
        exact ⟨congrArg (fun z => Ending.returned (.bool z)) HD.out.symm, rfl⟩
    · rw [decide_eq_false (fun h => h1 h.1)] at hhx
      have HD := Lib.hid hhx
      have h3 : m < 97 := by omega
      clear hhx h1
      go_enter Tryz.func68, Tryz.ntmps68
      go_wp2_with (first | (go_at_call 69; refine (HG.out _).mono ?_; rintro e w' ⟨rfl, rfl⟩))
      go_ret
      exact ⟨congrArg (fun z => Ending.returned (.bool z)) HD.out.symm, rfl⟩
/-- The character of a number in digits. -/
def fixr (n : Nat) : Int := if n = 0 ∨ Lib.validRune (n : Int) = false then 65533 else (n : Int)
def chr (b most : Nat) (ok : UInt8 → Bool) (s : List UInt8) : ByteArray × Bool := if s = [] ∨ most < s.length ∨ s.all ok = false then (⟨#[]⟩, false) else (Go.Utf8.encode (fixr (num b s)), true)
set_option maxHeartbeats 4000000 in
set_option maxRecDepth 100000 in
theorem all10 (s : List UInt8) (hs : s.length ≤ 1099511627776) (w : World) : Calls Tryz.prog 84 #[.string (B s), .func (.func 69) #[] #[]] w fun e w' => e = .returned (.bool (s.all dg)) ∧ w = w' := by
  have hsz : (B s).size = s.length := B_size s
  go_enter Tryz.func84, Tryz.ntmps84
  go_wp2
  go_loop [8] (fun vi => ∃ k : Nat, vi = .int .i64 k ∧ k ≤ s.length ∧ Hid ((s.take k).all dg = true))
    (fun vi => s.length - (intOf vi).toNat)
  case atStart => exact ⟨0, rfl, by omega, by rw [List.take_zero]; rfl⟩
  case round =>
    obtain ⟨k, rfl, hk, HA⟩ := hrel
    by_cases hkn : k < s.length
    · have hks : k < (B s).size := by omega
      have hi : (B s)[k]'hks = s[k] := List.getElem_toArray hkn
      have hall : (s.take (k + 1)).all dg = dg s[k] := by rw [← List.take_append_getElem hkn, List.all_append, HA.out, Bool.true_and, List.all_cons, List.all_nil, Bool.and_true]; rfl
      cases hok : dg s[k] with
      | true =>
        have HN := Lib.hid (show (s.take (k + 1)).all dg = true by rw [hall, hok])
        have HP := Lib.hid (show ∀ w, Calls Tryz.prog 69 #[.int .u8 (((B s)[k]'hks).toNat : Int)] w fun e w' => e = .returned (.bool true) ∧ w = w' by rw [hi]; intro w; have := digit_any s[k] w; rw [hok] at this; exact this)
        clear hi hall hok HA
        go_wp2_with (first | (go_at_call 69; refine (HP.out _).mono ?_; rintro e w' ⟨rfl, rfl⟩))
        go_round
        case rel => exact ⟨k + 1, by go_num, by omega, HN⟩
        case measure => simp [intOf]; omega
      | false =>
        have HN := Lib.hid (show s.all dg = false by
          rw [← Bool.not_eq_true]
          intro h
          have := List.all_eq_true.1 h _ (List.getElem_mem hkn)
          exact absurd (this.symm.trans hok) (by decide))
        have HP := Lib.hid (show ∀ w, Calls Tryz.prog 69 #[.int .u8 (((B s)[k]'hks).toNat : Int)] w fun e w' => e = .returned (.bool false) ∧ w = w' by rw [hi]; intro w; have := digit_any s[k] w; rw [hok] at this; exact this)
        clear hi hall hok HA
        go_wp2_with (first | (go_at_call 69; refine (HP.out _).mono ?_; rintro e w' ⟨rfl, rfl⟩))
        go_ret
        exact ⟨congrArg (fun z => Ending.returned (.bool z)) HN.out.symm, rfl⟩
    · have HN := Lib.hid (show s.all dg = true by rw [← HA.out, List.take_of_length_le (by omega)])
      have hkb : decide (k < (B s).size) = false := decide_eq_false (by omega)
      clear HA
      go_wp2
      go_ret
      exact ⟨congrArg (fun z => Ending.returned (.bool z)) HN.out.symm, rfl⟩
set_option maxHeartbeats 4000000 in
set_option maxRecDepth 100000 in
theorem chr10 (s : List UInt8) (hs : s.length ≤ 1099511627776) (w : World) : Calls Tryz.prog 67 #[.string (B s), .int .i64 10, .int .i64 7, .func (.func 69) #[] #[]] w fun e w' => e = .returned (.tuple #[.string (chr 10 7 dg s).1, .bool (chr 10 7 dg s).2]) ∧ Below w.heap.size w w' := by
  have hsz : (B s).size = s.length := B_size s
  obtain ⟨⟨q1, q2⟩, hq⟩ : ∃ q, chr 10 7 dg s = q := ⟨_, rfl⟩
  rw [hq]
  unfold chr at hq
  by_cases h0 : s = []
  · rw [if_pos (.inl h0)] at hq
    have HQ := Lib.hid (Prod.mk.inj hq)
    subst h0
    have hemp : (B []).toList = [] := B_toList []
    have hem2 : (B []).toList.isEmpty = true := by rw [hemp]; rfl
    clear hq
    go_enter Tryz.func67, Tryz.ntmps67
    go_wp2
    go_ret2
    exact ⟨ret_sb HQ.out.1.symm HQ.out.2.symm, Below.refl _ _⟩
  · have hemp : (B s).toList.isEmpty = false := by
      rw [B_toList]
      cases s with
      | nil => exact absurd rfl h0
      | cons _ _ => rfl
    by_cases h1 : 7 < s.length
    · rw [if_pos (.inr (.inl h1))] at hq
      have HQ := Lib.hid (Prod.mk.inj hq)
      have h2 : 7 < (B s).size := by omega
      clear hq h0
      go_enter Tryz.func67, Tryz.ntmps67
      go_wp2
      go_ret2
      exact ⟨ret_sb HQ.out.1.symm HQ.out.2.symm, Below.refl _ _⟩
    · have h2 : (B s).size ≤ 7 := by omega
      have hall := all10 s hs
      cases ha : s.all dg with
      | false =>
        rw [if_pos (.inr (.inr ha))] at hq
        have HQ := Lib.hid (Prod.mk.inj hq)
        rw [ha] at hall
        have HA := Lib.hid hall
        clear hq hall ha h0 h1
        go_enter Tryz.func67, Tryz.ntmps67
        go_wp2_with (first | (go_at_call 84; refine (HA.out _).mono ?_; rintro e w' ⟨rfl, rfl⟩))
        go_ret2
        exact ⟨ret_sb HQ.out.1.symm HQ.out.2.symm, Below.refl _ _⟩
      | true =>
        rw [if_neg (by rintro (h | h | h); exact h0 h; exact h1 h; rw [ha] at h; cases h)] at hq
        rw [ha] at hall
        have HA := Lib.hid hall
        have hdk : ∀ x ∈ s, dOk 10 x := fun x hx => (show dg x = true → dOk 10 x from fun h => .inl (of_decide_eq_true h)) (List.all_eq_true.1 ha x hx)
        have HP := Lib.hid (parseInt10 s h0 (by omega) hdk)
        have hlt := num_lt 10 (by decide) s.length s rfl hdk
        have h16 : (16 : Nat) ^ s.length ≤ 16 ^ 7 := Nat.pow_le_pow_right (by decide) (by omega)
        obtain ⟨nn, hnn⟩ : ∃ nn : Nat, num 10 s = nn := ⟨_, rfl⟩
        rw [hnn] at HP hq hlt
        have n1 : nn ≤ 268435455 := by omega
        clear hall ha h0 h1 hdk hlt h16 hnn
        by_cases hz : nn = 0
        · rw [show fixr nn = 65533 from if_pos (.inl hz)] at hq
          have HQ := Lib.hid (Prod.mk.inj hq)
          clear hq
          subst hz
          go_enter Tryz.func67, Tryz.ntmps67
          go_wp2_with (first | (go_at_call 84; refine (HA.out _).mono ?_; rintro e w' ⟨rfl, rfl⟩) | (go_at_call 85; refine (HP.out _).mono ?_; rintro e w' ⟨rfl, hb⟩; have HB := Lib.hid hb; clear hb))
          go_ret2
          exact ⟨ret_sb HQ.out.1.symm HQ.out.2.symm, HB.out⟩
        · have hzb : ((nn : Int) == 0) = false := beq_eq_false_iff_ne.2 (by omega)
          have n0 : 0 < nn := by omega
          cases hv : Lib.validRune (nn : Int) with
          | true =>
            rw [show fixr nn = (nn : Int) from if_neg (by rintro (h | h); exact hz h; rw [hv] at h; cases h)] at hq
            have HQ := Lib.hid (Prod.mk.inj hq)
            have HV := Lib.hid (show ∀ w, Calls Tryz.prog 86 #[.int .i32 (nn : Int)] w fun e w' => e = .returned (.bool true) ∧ w' = w from fun w => by have := Tryz.utf8_ValidRune (nn : Int) w; rw [hv] at this; exact this)
            clear hq hv hz
            go_enter Tryz.func67, Tryz.ntmps67
            go_wp2_with (first | (go_at_call 84; refine (HA.out _).mono ?_; rintro e w' ⟨rfl, rfl⟩) | (go_at_call 85; refine (HP.out _).mono ?_; rintro e w' ⟨rfl, hb⟩; have HB := Lib.hid hb; clear hb) | (go_at_call 86; refine (HV.out _).mono ?_; rintro e w' ⟨rfl, rfl⟩))
            go_ret2
            exact ⟨ret_sb HQ.out.1.symm HQ.out.2.symm, HB.out⟩
          | false =>
            rw [show fixr nn = 65533 from if_pos (.inr hv)] at hq
            have HQ := Lib.hid (Prod.mk.inj hq)
            have HV := Lib.hid (show ∀ w, Calls Tryz.prog 86 #[.int .i32 (nn : Int)] w fun e w' => e = .returned (.bool false) ∧ w' = w from fun w => by have := Tryz.utf8_ValidRune (nn : Int) w; rw [hv] at this; exact this)
            clear hq hv hz
            go_enter Tryz.func67, Tryz.ntmps67
            go_wp2_with (first | (go_at_call 84; refine (HA.out _).mono ?_; rintro e w' ⟨rfl, rfl⟩) | (go_at_call 85; refine (HP.out _).mono ?_; rintro e w' ⟨rfl, hb⟩; have HB := Lib.hid hb; clear hb) | (go_at_call 86; refine (HV.out _).mono ?_; rintro e w' ⟨rfl, rfl⟩))
            go_ret2
            exact ⟨ret_sb HQ.out.1.symm HQ.out.2.symm, HB.out⟩
set_option maxHeartbeats 4000000 in
set_option maxRecDepth 100000 in
theorem all16 (s : List UInt8) (hs : s.length ≤ 1099511627776) (w : World) : Calls Tryz.prog 84 #[.string (B s), .func (.func 68) #[] #[]] w fun e w' => e = .returned (.bool (s.all hxd)) ∧ w = w' := by
  have hsz : (B s).size = s.length := B_size s
  go_enter Tryz.func84, Tryz.ntmps84
  go_wp2
  go_loop [8] (fun vi => ∃ k : Nat, vi = .int .i64 k ∧ k ≤ s.length ∧ Hid ((s.take k).all hxd = true))
    (fun vi => s.length - (intOf vi).toNat)
  case atStart => exact ⟨0, rfl, by omega, by rw [List.take_zero]; rfl⟩
  case round =>
    obtain ⟨k, rfl, hk, HA⟩ := hrel
    by_cases hkn : k < s.length
    · have hks : k < (B s).size := by omega
      have hi : (B s)[k]'hks = s[k] := List.getElem_toArray hkn
      have hall : (s.take (k + 1)).all hxd = hxd s[k] := by rw [← List.take_append_getElem hkn, List.all_append, HA.out, Bool.true_and, List.all_cons, List.all_nil, Bool.and_true]; rfl
      cases hok : hxd s[k] with
      | true =>
        have HN := Lib.hid (show (s.take (k + 1)).all hxd = true by rw [hall, hok])
        have HP := Lib.hid (show ∀ w, Calls Tryz.prog 68 #[.int .u8 (((B s)[k]'hks).toNat : Int)] w fun e w' => e = .returned (.bool true) ∧ w = w' by rw [hi]; intro w; have := hexd_any s[k] w; rw [hok] at this; exact this)
        clear hi hall hok HA
        go_wp2_with (first | (go_at_call 68; refine (HP.out _).mono ?_; rintro e w' ⟨rfl, rfl⟩))
        go_round
        case rel => exact ⟨k + 1, by go_num, by omega, HN⟩
        case measure => simp [intOf]; omega
      | false =>
        have HN := Lib.hid (show s.all hxd = false by
          rw [← Bool.not_eq_true]
          intro h
          have := List.all_eq_true.1 h _ (List.getElem_mem hkn)
          exact absurd (this.symm.trans hok) (by decide))
        have HP := Lib.hid (show ∀ w, Calls Tryz.prog 68 #[.int .u8 (((B s)[k]'hks).toNat : Int)] w fun e w' => e = .returned (.bool false) ∧ w = w' by rw [hi]; intro w; have := hexd_any s[k] w; rw [hok] at this; exact this)
        clear hi hall hok HA
        go_wp2_with (first | (go_at_call 68; refine (HP.out _).mono ?_; rintro e w' ⟨rfl, rfl⟩))
        go_ret
        exact ⟨congrArg (fun z => Ending.returned (.bool z)) HN.out.symm, rfl⟩
    · have HN := Lib.hid (show s.all hxd = true by rw [← HA.out, List.take_of_length_le (by omega)])
      have hkb : decide (k < (B s).size) = false := decide_eq_false (by omega)
      clear HA
      go_wp2
      go_ret
      exact ⟨congrArg (fun z => Ending.returned (.bool z)) HN.out.symm, rfl⟩
set_option maxHeartbeats 4000000 in
set_option maxRecDepth 100000 in
theorem chr16 (s : List UInt8) (hs : s.length ≤ 1099511627776) (w : World) : Calls Tryz.prog 67 #[.string (B s), .int .i64 16, .int .i64 6, .func (.func 68) #[] #[]] w fun e w' => e = .returned (.tuple #[.string (chr 16 6 hxd s).1, .bool (chr 16 6 hxd s).2]) ∧ Below w.heap.size w w' := by
  have hsz : (B s).size = s.length := B_size s
  obtain ⟨⟨q1, q2⟩, hq⟩ : ∃ q, chr 16 6 hxd s = q := ⟨_, rfl⟩
  rw [hq]
  unfold chr at hq
  by_cases h0 : s = []
  · rw [if_pos (.inl h0)] at hq
    have HQ := Lib.hid (Prod.mk.inj hq)
    subst h0
    have hemp : (B []).toList = [] := B_toList []
    have hem2 : (B []).toList.isEmpty = true := by rw [hemp]; rfl
    clear hq
    go_enter Tryz.func67, Tryz.ntmps67
    go_wp2
    go_ret2
    exact ⟨ret_sb HQ.out.1.symm HQ.out.2.symm, Below.refl _ _⟩
  · have hemp : (B s).toList.isEmpty = false := by
      rw [B_toList]
      cases s with
      | nil => exact absurd rfl h0
      | cons _ _ => rfl
    by_cases h1 : 6 < s.length
    · rw [if_pos (.inr (.inl h1))] at hq
      have HQ := Lib.hid (Prod.mk.inj hq)
      have h2 : 6 < (B s).size := by omega
      clear hq h0
      go_enter Tryz.func67, Tryz.ntmps67
      go_wp2
      go_ret2
      exact ⟨ret_sb HQ.out.1.symm HQ.out.2.symm, Below.refl _ _⟩
    · have h2 : (B s).size ≤ 6 := by omega
      have hall := all16 s hs
      cases ha : s.all hxd with
      | false =>
        rw [if_pos (.inr (.inr ha))] at hq
        have HQ := Lib.hid (Prod.mk.inj hq)
        rw [ha] at hall
        have HA := Lib.hid hall
        clear hq hall ha h0 h1
        go_enter Tryz.func67, Tryz.ntmps67
        go_wp2_with (first | (go_at_call 84; refine (HA.out _).mono ?_; rintro e w' ⟨rfl, rfl⟩))
        go_ret2
        exact ⟨ret_sb HQ.out.1.symm HQ.out.2.symm, Below.refl _ _⟩
      | true =>
        rw [if_neg (by rintro (h | h | h); exact h0 h; exact h1 h; rw [ha] at h; cases h)] at hq
        rw [ha] at hall
        have HA := Lib.hid hall
        have hdk : ∀ x ∈ s, dOk 16 x := fun x hx => (show hxd x = true → dOk 16 x from fun h => of_decide_eq_true h) (List.all_eq_true.1 ha x hx)
        have HP := Lib.hid (parseInt16 s h0 (by omega) hdk)
        have hlt := num_lt 16 (by decide) s.length s rfl hdk
        have h16 : (16 : Nat) ^ s.length ≤ 16 ^ 7 := Nat.pow_le_pow_right (by decide) (by omega)
        obtain ⟨nn, hnn⟩ : ∃ nn : Nat, num 16 s = nn := ⟨_, rfl⟩
        rw [hnn] at HP hq hlt
        have n1 : nn ≤ 268435455 := by omega
        clear hall ha h0 h1 hdk hlt h16 hnn
        by_cases hz : nn = 0
        · rw [show fixr nn = 65533 from if_pos (.inl hz)] at hq
          have HQ := Lib.hid (Prod.mk.inj hq)
          clear hq
          subst hz
          go_enter Tryz.func67, Tryz.ntmps67
          go_wp2_with (first | (go_at_call 84; refine (HA.out _).mono ?_; rintro e w' ⟨rfl, rfl⟩) | (go_at_call 85; refine (HP.out _).mono ?_; rintro e w' ⟨rfl, hb⟩; have HB := Lib.hid hb; clear hb))
          go_ret2
          exact ⟨ret_sb HQ.out.1.symm HQ.out.2.symm, HB.out⟩
        · have hzb : ((nn : Int) == 0) = false := beq_eq_false_iff_ne.2 (by omega)
          have n0 : 0 < nn := by omega
          cases hv : Lib.validRune (nn : Int) with
          | true =>
            rw [show fixr nn = (nn : Int) from if_neg (by rintro (h | h); exact hz h; rw [hv] at h; cases h)] at hq
            have HQ := Lib.hid (Prod.mk.inj hq)
            have HV := Lib.hid (show ∀ w, Calls Tryz.prog 86 #[.int .i32 (nn : Int)] w fun e w' => e = .returned (.bool true) ∧ w' = w from fun w => by have := Tryz.utf8_ValidRune (nn : Int) w; rw [hv] at this; exact this)
            clear hq hv hz
            go_enter Tryz.func67, Tryz.ntmps67
            go_wp2_with (first | (go_at_call 84; refine (HA.out _).mono ?_; rintro e w' ⟨rfl, rfl⟩) | (go_at_call 85; refine (HP.out _).mono ?_; rintro e w' ⟨rfl, hb⟩; have HB := Lib.hid hb; clear hb) | (go_at_call 86; refine (HV.out _).mono ?_; rintro e w' ⟨rfl, rfl⟩))
            go_ret2
            exact ⟨ret_sb HQ.out.1.symm HQ.out.2.symm, HB.out⟩
          | false =>
            rw [show fixr nn = 65533 from if_pos (.inr hv)] at hq
            have HQ := Lib.hid (Prod.mk.inj hq)
            have HV := Lib.hid (show ∀ w, Calls Tryz.prog 86 #[.int .i32 (nn : Int)] w fun e w' => e = .returned (.bool false) ∧ w' = w from fun w => by have := Tryz.utf8_ValidRune (nn : Int) w; rw [hv] at this; exact this)
            clear hq hv hz
            go_enter Tryz.func67, Tryz.ntmps67
            go_wp2_with (first | (go_at_call 84; refine (HA.out _).mono ?_; rintro e w' ⟨rfl, rfl⟩) | (go_at_call 85; refine (HP.out _).mono ?_; rintro e w' ⟨rfl, hb⟩; have HB := Lib.hid hb; clear hb) | (go_at_call 86; refine (HV.out _).mono ?_; rintro e w' ⟨rfl, rfl⟩))
            go_ret2
            exact ⟨ret_sb HQ.out.1.symm HQ.out.2.symm, HB.out⟩
end Go.Proofs.YtjobchgncdgfaaaGreatDoor.PA

namespace Go.Proofs.YtjobchgncdgfaaaGreatDoor.PA
open Go.RowKit Go.Proofs.YtjobchgncdgfaaaGreatDoor.Pl Go.Proofs.YtjobchgncdgfaaaGreatDoorW.PrintWords Go.Proofs.YtjobchgncdgfaaaGreatDoorW.PrintLast Go.Proofs.YtjobchgncdgfaaaGreatDoorW.PrintMore
set_option linter.unusedVariables false

/-- The character of what stands between & and ;. -/
def bdy : List UInt8 → ByteArray × Bool
  | [] => nmd []
  | x :: d => if x = 35 then
      match d with
      | [] => chr 10 7 dg []
      | y :: t => if (y.toNat ||| 32) = 120 then chr 16 6 hxd t else chr 10 7 dg (y :: t)
    else nmd (x :: d)
theorem bdy_no (x : UInt8) (d : List UInt8) (h : x ≠ 35) : bdy (x :: d) = nmd (x :: d) := by simp [bdy, h]
theorem bdy_35 : bdy [35] = chr 10 7 dg [] := rfl
theorem bdy_two (y : UInt8) (t : List UInt8) : bdy (35 :: y :: t) = if (y.toNat ||| 32) = 120 then chr 16 6 hxd t else chr 10 7 dg (y :: t) := rfl
set_option maxHeartbeats 4000000 in
set_option maxRecDepth 100000 in
theorem body_walk (s : List UInt8) (hs : s.length ≤ 1099511627776) (w : World) : Calls Tryz.prog 51 #[.string (B s)] w fun e w' => e = .returned (.tuple #[.string (bdy s).1, .bool (bdy s).2]) ∧ Below w.heap.size w w' := by
  have hcp := Tryz.strings_CutPrefix (B s) ⟨#[35]⟩
  rw [B_data, show (⟨#[35]⟩ : ByteArray).data.toList = [35] from rfl] at hcp
  obtain ⟨⟨q1, q2⟩, hq⟩ : ∃ q, bdy s = q := ⟨_, rfl⟩
  rw [hq]
  have hplain : Lib.hasPrefix s [35] = false → bdy s = nmd s := by
    intro h
    cases s with
    | nil => rfl
    | cons x d =>
      have hx : x ≠ 35 := by
        intro e
        subst e
        simp [Lib.hasPrefix, List.isPrefixOf] at h
      exact bdy_no x d hx
  cases hp : Lib.hasPrefix s [35] with
  | false =>
    have hr := hplain hp
    rw [hq] at hr
    have ht : Lib.trimPrefix s [35] = s := by unfold Lib.trimPrefix; rw [hp]; rfl
    rw [hp, ht] at hcp
    have HC := Lib.hid hcp
    have HN := Lib.hid (named_walk s)
    rw [← hr] at HN
    clear hcp hq hp hr ht hplain
    go_enter Tryz.func51, Tryz.ntmps51
    go_wp2_with (first | (go_at_call 65; refine (HC.out _).mono ?_; rintro e w' ⟨rfl, rfl⟩) | (go_at_call 66; refine (HN.out _).mono ?_; rintro e w' ⟨rfl, hb⟩; have HB := Lib.hid hb; clear hb))
    go_ret2
    exact ⟨rfl, HB.out⟩
  | true =>
    obtain ⟨d, rfl⟩ : ∃ d, s = 35 :: d := by
      cases s with
      | nil => cases hp
      | cons x d =>
        simp [Lib.hasPrefix, List.isPrefixOf] at hp
        exact ⟨d, by rw [hp]⟩
    have ht : Lib.trimPrefix (35 :: d) [35] = d := by unfold Lib.trimPrefix; rw [hp]; rfl
    rw [hp, ht] at hcp
    have HC := Lib.hid (show ∀ w, Calls Tryz.prog 65 #[.string (B (35 :: d)), .string ⟨#[35]⟩] w fun e w' => e = .returned (.tuple #[.string (B d), .bool true]) ∧ w' = w from hcp)
    clear hcp hp ht hplain
    rw [List.length_cons] at hs
    generalize B (35 :: d) = S0 at HC ⊢
    cases d with
    | nil =>
      have hb := hq.symm.trans bdy_35
      clear hq
      have HN := Lib.hid (chr10 [] (by simp))
      rw [← hb] at HN
      have hemp : (B []).toList = [] := B_toList []
      have hem2 : (B []).toList.isEmpty = true := by rw [hemp]; rfl
      clear hb
      go_enter Tryz.func51, Tryz.ntmps51
      go_wp2_with (first | (go_at_call 65; refine (HC.out _).mono ?_; rintro e w' ⟨rfl, rfl⟩) | (go_at_call 67; refine (HN.out _).mono ?_; rintro e w' ⟨rfl, hb⟩; have HB := Lib.hid hb; clear hb))
      go_ret2
      exact ⟨rfl, HB.out⟩
    | cons y t =>
      have hb := hq.symm.trans (bdy_two y t)
      clear hq
      have hemp : (B (y :: t)).toList.isEmpty = false := by rw [B_toList]; rfl
      have hz : 0 < (B (y :: t)).size := by rw [B_size]; simp
      have hz1 : 1 ≤ (B (y :: t)).size := hz
      have hi : (B (y :: t))[0]'hz = y := rfl
      have h32 := or32 y
      by_cases hxy : (y.toNat ||| 32) = 120
      · rw [if_pos hxy] at hb
        have HN := Lib.hid (chr16 t (by simp at hs; omega))
        rw [← hb] at HN
        have hex : (B (y :: t)).extract 1 (B (y :: t)).size = B t := B_from (y :: t) 1 _ (B_size _)
        have h120 : bits .or .u8 (((B (y :: t))[0]'hz).toNat : Int) 32 = 120 := by rw [hi, h32, hxy]; rfl
        clear hb hi h32 hxy
        go_enter Tryz.func51, Tryz.ntmps51
        go_wp2_with (first | (go_at_call 65; refine (HC.out _).mono ?_; rintro e w' ⟨rfl, rfl⟩) | (go_at_call 67; refine (HN.out _).mono ?_; rintro e w' ⟨rfl, hb⟩; have HB := Lib.hid hb; clear hb))
        go_ret2
        exact ⟨rfl, HB.out⟩
      · rw [if_neg hxy] at hb
        have HN := Lib.hid (chr10 (y :: t) (by simp at hs ⊢; omega))
        rw [← hb] at HN
        have h120 : (bits .or .u8 (((B (y :: t))[0]'hz).toNat : Int) 32 == 120) = false := by rw [hi, h32]; exact beq_eq_false_iff_ne.2 (by omega)
        clear hb hi h32 hxy
        go_enter Tryz.func51, Tryz.ntmps51
        go_wp2_with (first | (go_at_call 65; refine (HC.out _).mono ?_; rintro e w' ⟨rfl, rfl⟩) | (go_at_call 67; refine (HN.out _).mono ?_; rintro e w' ⟨rfl, hb⟩; have HB := Lib.hid hb; clear hb))
        go_ret2
        exact ⟨rfl, HB.out⟩
def entity_body.f (a0 : ByteArray) : Option (ByteArray × Bool) := if a0.size ≤ 1073741824 then some (bdy a0.data.toList) else none
theorem entity_body.calls (a0 : ByteArray) (r1 : ByteArray) (r2 : Bool) (w : World) (h : entity_body.f a0 = some (r1, r2)) :
    Calls Tryz.prog 51 #[.string a0] w fun e w' => e = .returned (.tuple #[.string r1, .bool r2]) ∧ Below w.heap.size w w' := by
  unfold entity_body.f at h
  split at h
  · rename_i hc
    have h2 := body_walk a0.data.toList (by rw [Array.length_toList]; show a0.size ≤ _; omega) w
    rw [Option.some.inj h, B_eta] at h2
    exact h2
  · cases h
end Go.Proofs.YtjobchgncdgfaaaGreatDoor.PA

namespace Go.Proofs.YtjobchgncdgfaaaGreatDoor.PA
open Go.RowKit Go.Proofs.YtjobchgncdgfaaaGreatDoorW.PrintWords

def strings_HasPrefix.f (a0 : ByteArray) (a1 : ByteArray) : Option Bool := some (Lib.hasPrefix a0.data.toList a1.data.toList)
theorem strings_HasPrefix.calls (a0 : ByteArray) (a1 : ByteArray) (r : Bool) (w : World) (h : strings_HasPrefix.f a0 a1 = some r) :
    Calls Tryz.prog 20 #[.string a0, .string a1] w fun e w' => e = .returned (.bool r) ∧ Drawn0 w w' := by
  unfold strings_HasPrefix.f at h
  have h2 := Option.some.inj h
  subst h2
  refine (Tryz.strings_HasPrefix a0 a1 w).mono ?_
  rintro e w' ⟨rfl, rfl⟩
  exact ⟨rfl, Drawn0.refl _⟩
def strings_Cut.f (a0 : ByteArray) (a1 : ByteArray) : Option (ByteArray × ByteArray × Bool) := if a0.size ≤ 4294967280 then some (⟨(Lib.cut a0.data.toList a1.data.toList).1.toArray⟩, ⟨(Lib.cut a0.data.toList a1.data.toList).2.1.toArray⟩, (Lib.cut a0.data.toList a1.data.toList).2.2) else none
theorem strings_Cut.calls (a0 : ByteArray) (a1 : ByteArray) (r1 : ByteArray) (r2 : ByteArray) (r3 : Bool) (w : World) (hLd : Laid w) (h : strings_Cut.f a0 a1 = some (r1, r2, r3)) :
    Calls Tryz.prog 50 #[.string a0, .string a1] w fun e w' => e = .returned (.tuple #[.string r1, .string r2, .bool r3]) ∧ Below w.heap.size w w' := by
  unfold strings_Cut.f at h
  split at h
  · rename_i hc
    have h2 := Option.some.inj h
    simp only [Prod.mk.injEq] at h2; obtain ⟨rfl, rfl, rfl⟩ := h2
    obtain ⟨m, hm⟩ := hLd.ml
    refine (Tryz.strings_Cut a0 a1 m w (by omega) hm).mono ?_
    rintro e w' ⟨rfl, n, rfl⟩
    exact ⟨rfl, pw_below_drewN (Below.refl _ _) n⟩
  · cases h
def strings_Split.f (a0 a1 : ByteArray) : Option (List ByteArray) := if a0.size ≤ 4294967280 ∧ 1 ≤ a1.size then some (Lib.splitB a1 0 (Lib.countB a0 a1) a0) else none
theorem strings_Split.calls (a0 a1 : ByteArray) (r : List ByteArray) (w : World) (hLd : Laid w) (h : strings_Split.f a0 a1 = some r) :
    Calls Tryz.prog 43 #[.string a0, .string a1] w fun e w' => ∃ v0_, e = .returned v0_ ∧ Kd.R Kd.string 9 w' w.heap.size (fun _ => True) v0_ r ∧ Below w.heap.size w w' := by
  unfold strings_Split.f at h
  split at h
  · rename_i hc
    obtain rfl := Option.some.inj h
    obtain ⟨m, hm⟩ := hLd.ml
    have hl := Lib.splitB_all a1 hc.2 0 _ a0 rfl
    have hk : Lib.countB a0 a1 ≤ 9223372036854775806 := by have := Lib.countB_le a1 hc.2 a0.size a0 (Nat.le_refl _); omega
    refine (Tryz.strings_Split a0 a1 m w (by omega) hm hc.2).mono ?_
    rintro e w' ⟨rfl, rfl⟩
    refine ⟨_, rfl, ⟨fun _ _ => trivial, ?_⟩, (Below.refl _ w).alloc (Nat.le_refl _) _⟩
    rw [← hl]
    exact OwnRow.lit w w.heap.size (Kd.reps_scalar _) (Nat.le_refl _) (by omega)
  · cases h
end Go.Proofs.YtjobchgncdgfaaaGreatDoor.PA

namespace Go.Proofs.YtjobchgncdgfaaaGreatDoor.Pure
open Go.RowKit Go.Proofs.YtjobchgncdgfaaaGreatDoorW.PrintWords Go.Proofs.YtjobchgncdgfaaaGreatDoorW.PrintMore Go.Proofs.YtjobchgncdgfaaaGreatDoor.Pl Go.Proofs.YtjobchgncdgfaaaGreatDoor.PA

/-- What stands ahead of the first ;. -/
def upto : List UInt8 → List UInt8
  | [] => []
  | x :: t => if x = 59 then [] else x :: upto t
theorem upto_len : ∀ t : List UInt8, (upto t).length ≤ t.length
  | [] => Nat.le_refl _
  | x :: t => by
    have := upto_len t
    unfold upto
    split
    · simp
    · simp; exact this
theorem upto_lt : ∀ t : List UInt8, (59 : UInt8) ∈ t → (upto t).length < t.length
  | [], h => by cases h
  | x :: t, h => by
    unfold upto
    split
    · simp
    · rename_i hx
      have := upto_lt t (by rcases List.mem_cons.1 h with e | e; exact absurd e.symm hx; exact e)
      simpa using this
theorem upto_take : ∀ t : List UInt8, t.take (upto t).length = upto t
  | [] => rfl
  | x :: t => by
    unfold upto
    split
    · rfl
    · simp [upto_take t]
theorem upto_no : ∀ t : List UInt8, (59 : UInt8) ∉ upto t
  | [] => by simp [upto]
  | x :: t => by
    unfold upto
    split
    · simp
    · rename_i hx
      rw [List.mem_cons]
      rintro (e | e)
      · exact hx e.symm
      · exact upto_no t e
theorem idx59 : ∀ t : List UInt8, Lib.index t [59] = if (59 : UInt8) ∈ t then ((upto t).length : Int) else -1
  | [] => by rw [if_neg (by simp)]; rfl
  | x :: t => by
    rw [Lib.index, upto]
    by_cases hx : x = 59
    · subst hx
      rw [if_pos (by simp [List.isPrefixOf]), if_pos (by simp), if_pos rfl]
      rfl
    · have hm : (59 : UInt8) ∈ x :: t ↔ (59 : UInt8) ∈ t := by rw [List.mem_cons]; exact ⟨fun h => h.resolve_left (fun e => hx e.symm), .inr⟩
      rw [if_neg (by simp [List.isPrefixOf] <;> exact fun e => hx e.symm), idx59 t, if_neg hx]
      by_cases h : (59 : UInt8) ∈ t
      · rw [if_pos h, if_pos (hm.2 h), if_neg (by simp <;> omega)]
        simp
      · rw [if_neg h, if_neg (fun e => h (hm.1 e))]
        rfl
theorem cut59 (t : List UInt8) : Lib.cut t [59] = if (59 : UInt8) ∈ t then (upto t, t.drop ((upto t).length + 1), true) else (t, [], false) := by
  unfold Lib.cut
  rw [idx59]
  by_cases h : (59 : UInt8) ∈ t
  · rw [if_pos h, if_pos (by omega), if_pos h, Int.toNat_natCast, upto_take]
    rfl
  · rw [if_neg h, if_neg (by decide), if_neg h]
/-- What is read. -/
def rdE : List UInt8 → ByteArray × Int
  | [] => (⟨#[]⟩, 0)
  | x :: t => if x = 38 then if (59 : UInt8) ∈ t then if (bdy (upto t)).2 = true then ((bdy (upto t)).1, ((upto t).length : Int) + 2) else (⟨#[]⟩, 0) else (⟨#[]⟩, 0) else (⟨#[]⟩, 0)
/-! #### names -/
theorem bsr_self : ∀ k, k < 183 → bsr (enm k) 183 0 183 = k := by
  have h : (List.range 183).all (fun k => bsr (enm k) 183 0 183 == k) = true := by decide +kernel
  intro k hk
  exact beq_iff_eq.1 (List.all_eq_true.1 h k (List.mem_range.2 hk))
theorem nmd_hit (k : Nat) (hk : k < 183) : nmd (enm k) = (Go.Utf8.encode (enn k), true) := by
  unfold nmd
  rw [bsr_self k hk, if_pos ⟨hk, rfl⟩]
theorem nmd_miss (t : List UInt8) (h : ∀ k, k < 183 → enm k ≠ t) : nmd t = (⟨#[]⟩, false) := by
  unfold nmd
  rw [if_neg (fun e => h _ e.1 e.2)]
theorem nmd_cases (t : List UInt8) : (∃ k, k < 183 ∧ enm k = t) ∨ ∀ k, k < 183 → enm k ≠ t := by
  by_cases h : ∃ k, k < 183 ∧ enm k = t
  · exact .inl h
  · exact .inr (fun k hk e => h ⟨k, hk, e⟩)
theorem enm_facts : ∀ k, k < 183 → 2 ≤ (enm k).length ∧ (enm k).length ≤ 24 ∧ (59 : UInt8) ∉ enm k ∧ (35 : UInt8) ∉ enm k := by
  have h : (List.range 183).all (fun k => decide (2 ≤ (enm k).length ∧ (enm k).length ≤ 24 ∧ (59 : UInt8) ∉ enm k ∧ (35 : UInt8) ∉ enm k)) = true := by decide +kernel
  intro k hk
  exact of_decide_eq_true (List.all_eq_true.1 h k (List.mem_range.2 hk))
/-- What is read, and what is not. -/
theorem rdE_cases (s : List UInt8) : rdE s = (⟨#[]⟩, 0) ∨ ∃ d u, s = 38 :: (d ++ 59 :: u) ∧ (59 : UInt8) ∉ d ∧ (bdy d).2 = true ∧ rdE s = ((bdy d).1, (d.length : Int) + 2) := by
  cases s with
  | nil => exact .inl rfl
  | cons x t =>
    by_cases hx : x = 38
    · subst hx
      by_cases h : (59 : UInt8) ∈ t
      · by_cases hb : (bdy (upto t)).2 = true
        · have hl := upto_lt t h
          refine .inr ⟨upto t, t.drop ((upto t).length + 1), ?_, upto_no t, hb, by rw [rdE, if_pos rfl, if_pos h, if_pos hb]⟩
          congr 1
          have h59 : ∀ t : List UInt8, (59 : UInt8) ∈ t → t = upto t ++ 59 :: t.drop ((upto t).length + 1) := by
            intro t
            induction t with
            | nil => intro h; cases h
            | cons x t ih =>
              intro h
              by_cases hx : x = 59
              · subst hx
                simp [upto]
              · have h2 : (59 : UInt8) ∈ t := by rcases List.mem_cons.1 h with e | e; exact absurd e.symm hx; exact e
                rw [upto, if_neg hx, List.length_cons, List.drop_succ_cons, List.cons_append, ← ih h2]
          exact h59 t h
        · exact .inl (by rw [rdE, if_pos rfl, if_pos h, if_neg hb])
      · exact .inl (by rw [rdE, if_pos rfl, if_neg h])
    · exact .inl (by rw [rdE, if_neg hx])
end Go.Proofs.YtjobchgncdgfaaaGreatDoor.Pure

namespace Go.Proofs.YtjobchgncdgfaaaGreatDoor.PA
open Go.RowKit Go.Proofs.YtjobchgncdgfaaaGreatDoor.Pl Go.Proofs.YtjobchgncdgfaaaGreatDoorW.PrintWords Go.Proofs.YtjobchgncdgfaaaGreatDoorW.PrintMore Go.Proofs.YtjobchgncdgfaaaGreatDoor.Pure
set_option linter.unusedVariables false

theorem pre38 (s : List UInt8) (w : World) : Calls Tryz.prog 20 #[.string (B s), .string ⟨#[38]⟩] w fun e w' => e = .returned (.bool (decide (s.head? = some 38))) ∧ Drawn0 w w' := by
  refine strings_HasPrefix.calls (B s) ⟨#[38]⟩ _ w ?_
  unfold strings_HasPrefix.f
  rw [B_data, show (⟨#[38]⟩ : ByteArray).data.toList = [38] from rfl]
  congr 1
  cases s with
  | nil => rfl
  | cons x t =>
    by_cases hx : x = 38
    · subst hx
      simp [Lib.hasPrefix, List.isPrefixOf]
    · simp [Lib.hasPrefix, List.isPrefixOf, hx]
      exact fun e => hx e.symm
theorem cutB (t : List UInt8) (ht : t.length ≤ 1073741824) (w : World) (hLd : Laid w) : Calls Tryz.prog 50 #[.string (B t), .string ⟨#[59]⟩] w fun e w' =>
    e = .returned (if (59 : UInt8) ∈ t then .tuple #[.string (B (upto t)), .string (B (t.drop ((upto t).length + 1))), .bool true] else .tuple #[.string (B t), .string (B []), .bool false]) ∧ Below w.heap.size w w' := by
  by_cases h : (59 : UInt8) ∈ t
  · rw [if_pos h]
    refine strings_Cut.calls (B t) ⟨#[59]⟩ _ _ _ w hLd ?_
    unfold strings_Cut.f
    rw [if_pos (by rw [B_size]; omega), B_data, show (⟨#[59]⟩ : ByteArray).data.toList = [59] from rfl, cut59, if_pos h]
    rfl
  · rw [if_neg h]
    refine strings_Cut.calls (B t) ⟨#[59]⟩ _ _ _ w hLd ?_
    unfold strings_Cut.f
    rw [if_pos (by rw [B_size]; omega), B_data, show (⟨#[59]⟩ : ByteArray).data.toList = [59] from rfl, cut59, if_neg h]
    rfl
set_option maxHeartbeats 2000000 in
set_option maxRecDepth 100000 in
theorem read_walk (s : List UInt8) (hs : s.length ≤ 1073741824) (w : World) (hLd : Laid w) :
    Calls Tryz.prog 39 #[.string (B s)] w fun e w' => e = .returned (.tuple #[.string (rdE s).1, .int .i64 (rdE s).2]) ∧ Below w.heap.size w w' := by
  have HP := Lib.hid (pre38 s)
  have HL := Lib.hid hLd
  clear hLd
  by_cases h38 : s.head? = some 38
  · rw [decide_eq_true h38] at HP
    obtain ⟨t, rfl⟩ : ∃ t, s = 38 :: t := by
      cases s with
      | nil => cases h38
      | cons x t => exact ⟨t, by rw [Option.some.inj h38]⟩
    rw [List.length_cons] at hs
    have hsz : (B (38 :: t)).size = t.length + 1 := B_size _
    have hz1 : 1 ≤ (B (38 :: t)).size := by omega
    have hex : (B (38 :: t)).extract 1 (B (38 :: t)).size = B t := B_from (38 :: t) 1 _ (B_size _)
    have hex2 : (B (38 :: t)).extract 1 (t.length + 1) = B t := B_from (38 :: t) 1 _ rfl
    have hC := Lib.hid (cutB t (by omega))
    have hrd : rdE (38 :: t) = if (59 : UInt8) ∈ t then if (bdy (upto t)).2 = true then ((bdy (upto t)).1, ((upto t).length : Int) + 2) else (⟨#[]⟩, 0) else (⟨#[]⟩, 0) := by rw [rdE, if_pos rfl]
    rw [hrd]
    have hul := upto_len t
    clear hrd h38
    generalize B (38 :: t) = S at *
    by_cases h59 : (59 : UInt8) ∈ t
    · rw [if_pos h59] at hC ⊢
      have hB := Lib.hid (entity_body.calls (B (upto t)) (bdy (upto t)).1 (bdy (upto t)).2)
      have hf : entity_body.f (B (upto t)) = some ((bdy (upto t)).1, (bdy (upto t)).2) := by unfold entity_body.f; rw [if_pos (by rw [B_size]; omega), B_data]
      have HF := Lib.hid hf
      have hus : (B (upto t)).size = (upto t).length := B_size _
      clear hf h59
      generalize B (upto t) = U at *
      generalize B (t.drop ((upto t).length + 1)) = V at *
      generalize (bdy (upto t)).1 = Q1 at *
      cases hb : (bdy (upto t)).2 with
      | true =>
        rw [hb] at hB HF
        clear hb
        rw [if_pos rfl]
        generalize (upto t).length = n at *
        go_enter Tryz.func39, Tryz.ntmps39
        go_wp2_with fail
        refine (HP.out _).mono ?_
        rintro e w1 ⟨rfl, hd⟩
        have HB1 := Lib.hid hd.below
        clear hd
        go_wp2_with fail
        with_reducible refine (hC.out _ (HL.out.go HB1.out)).mono ?_
        rintro e w2 ⟨rfl, hb2⟩
        have HB2 := Lib.hid (HB1.out.trans (hb2.mono HB1.out.size))
        clear hb2
        go_wp2_with fail
        refine (hB.out _ HF.out).mono ?_
        rintro e w3 ⟨rfl, hb3⟩
        have HB3 := Lib.hid (HB2.out.trans (hb3.mono HB2.out.size))
        clear hb3
        go_wp2
        go_ret2
        exact ⟨rfl, HB3.out⟩
      | false =>
        rw [hb] at hB HF
        clear hb
        rw [if_neg (by decide)]
        go_enter Tryz.func39, Tryz.ntmps39
        go_wp2_with fail
        refine (HP.out _).mono ?_
        rintro e w1 ⟨rfl, hd⟩
        have HB1 := Lib.hid hd.below
        clear hd
        go_wp2_with fail
        with_reducible refine (hC.out _ (HL.out.go HB1.out)).mono ?_
        rintro e w2 ⟨rfl, hb2⟩
        have HB2 := Lib.hid (HB1.out.trans (hb2.mono HB1.out.size))
        clear hb2
        go_wp2_with fail
        refine (hB.out _ HF.out).mono ?_
        rintro e w3 ⟨rfl, hb3⟩
        have HB3 := Lib.hid (HB2.out.trans (hb3.mono HB2.out.size))
        clear hb3
        go_wp2
        go_ret2
        exact ⟨rfl, HB3.out⟩
    · rw [if_neg h59] at hC ⊢
      generalize B t = V at *
      generalize B [] = V0 at *
      clear h59
      go_enter Tryz.func39, Tryz.ntmps39
      go_wp2_with fail
      refine (HP.out _).mono ?_
      rintro e w1 ⟨rfl, hd⟩
      have HB1 := Lib.hid hd.below
      clear hd
      go_wp2_with fail
      refine (hC.out _ (HL.out.go HB1.out)).mono ?_
      rintro e w2 ⟨rfl, hb2⟩
      have HB2 := Lib.hid (HB1.out.trans (hb2.mono HB1.out.size))
      clear hb2
      go_wp2
      go_ret2
      exact ⟨rfl, HB2.out⟩
  · rw [decide_eq_false h38] at HP
    have hrd : rdE s = (⟨#[]⟩, 0) := by
      cases s with
      | nil => rfl
      | cons x t => rw [rdE, if_neg (fun e => h38 (by rw [e]; rfl))]
    rw [hrd]
    clear hrd h38
    go_enter Tryz.func39, Tryz.ntmps39
    go_wp2_with fail
    refine (HP.out _).mono ?_
    rintro e w1 ⟨rfl, hd⟩
    have HB1 := Lib.hid hd.below
    clear hd
    go_wp2
    go_ret2
    exact ⟨rfl, HB1.out⟩
end Go.Proofs.YtjobchgncdgfaaaGreatDoor.PA

namespace Go.Proofs.YtjobchgncdgfaaaGreatDoor.Pl
open Go.RowKit Go.Proofs.YtjobchgncdgfaaaGreatDoorW.PrintWords

/-! #### HTML -/
/-- A byte as it stands in HTML. -/
def esc (x : UInt8) : List UInt8 := if x = 38 then [38, 97, 109, 112, 59] else if x = 60 then [38, 108, 116, 59] else if x = 62 then [38, 103, 116, 59] else if x = 34 then [38, 113, 117, 111, 116, 59] else [x]
/-- A text as it stands in HTML. -/
def htm (l : List UInt8) : List UInt8 := l.flatMap esc
/-! #### an address -/
end Go.Proofs.YtjobchgncdgfaaaGreatDoor.Pl

namespace Go.Proofs.YtjobchgncdgfaaaGreatDoor.PA
open Go.RowKit Go.Proofs.YtjobchgncdgfaaaGreatDoor.Pl Go.Proofs.YtjobchgncdgfaaaGreatDoorW.PrintWords Go.Proofs.YtjobchgncdgfaaaGreatDoorW.PrintLast Go.Proofs.YtjobchgncdgfaaaGreatDoorW.PrintMore
set_option linter.unusedVariables false

/-- The spans of signs. -/
def spn : List (Nat × Nat) := [(33, 47), (58, 64), (91, 96), (123, 126), (161, 169), (171, 172), (174, 177), (180, 180), (182, 184), (187, 187), (191, 191), (215, 215), (247, 247), (8208, 8231), (8240, 8286), (8352, 8384), (12289, 12291), (12296, 12319), (65281, 65295)]
def inS (r : Int) (e : Nat × Nat) : Bool := decide ((e.1 : Int) ≤ r) && decide (r ≤ (e.2 : Int))
def punct (r : Int) : Bool := spn.any (inS r)
set_option maxHeartbeats 1000000 in
theorem has_any (lo hi r : Int) (w : World) : Calls Tryz.prog 63 #[.agg #[.int .i32 lo, .int .i32 hi], .int .i32 r] w fun e w' => e = .returned (.bool (decide (lo ≤ r) && decide (r ≤ hi))) ∧ Below w.heap.size w w' := by
  by_cases h1 : lo ≤ r
  · by_cases h2 : r ≤ hi
    · rw [decide_eq_true h1, decide_eq_true h2]
      go_enter Tryz.func63, Tryz.ntmps63
      go_wp2
      go_ret
      exact ⟨rfl, (Below.refl _ _).alloc (Nat.le_refl _) _⟩
    · rw [decide_eq_true h1, decide_eq_false h2]
      have q := decide_eq_false h2
      go_enter Tryz.func63, Tryz.ntmps63
      go_wp2
      go_ret
      exact ⟨rfl, (Below.refl _ _).alloc (Nat.le_refl _) _⟩
  · rw [decide_eq_false h1]
    have q := decide_eq_false h1
    go_enter Tryz.func63, Tryz.ntmps63
    go_wp2
    go_ret
    exact ⟨rfl, (Below.refl _ _).alloc (Nat.le_refl _) _⟩
def spCells : Array Value := #[Value.int .i32 33, Value.int .i32 47, Value.int .i32 58, Value.int .i32 64, Value.int .i32 91, Value.int .i32 96, Value.int .i32 123, Value.int .i32 126, Value.int .i32 161, Value.int .i32 169, Value.int .i32 171, Value.int .i32 172, Value.int .i32 174, Value.int .i32 177, Value.int .i32 180, Value.int .i32 180, Value.int .i32 182, Value.int .i32 184, Value.int .i32 187, Value.int .i32 187, Value.int .i32 191, Value.int .i32 191, Value.int .i32 215, Value.int .i32 215, Value.int .i32 247, Value.int .i32 247, Value.int .i32 8208, Value.int .i32 8231, Value.int .i32 8240, Value.int .i32 8286, Value.int .i32 8352, Value.int .i32 8384, Value.int .i32 12289, Value.int .i32 12291, Value.int .i32 12296, Value.int .i32 12319, Value.int .i32 65281, Value.int .i32 65295]
theorem spDesc : Tryz.prog.underlying 71 = some (.array 19 70) := by kernel_rfl
theorem spSize : Tryz.prog.cellsOf 70 = 2 := by kernel_rfl
theorem spInfo : ∃ i, Tryz.prog.info? 70 = some i := by
  cases h : Tryz.prog.info? 70 with
  | none => exact absurd (show (Tryz.prog.info? 70).isSome = true by kernel_rfl) (by rw [h]; decide)
  | some i => exact ⟨i, rfl⟩
theorem sp_cut : ∀ k : Nat, k < 19 → spCells.extract (k * 2) (k * 2 + 2) = #[.int .i32 ((spn.getD k (0, 0)).1 : Int), .int .i32 ((spn.getD k (0, 0)).2 : Int)] := by
  intro k hk
  have : k = 0 ∨ k = 1 ∨ k = 2 ∨ k = 3 ∨ k = 4 ∨ k = 5 ∨ k = 6 ∨ k = 7 ∨ k = 8 ∨ k = 9 ∨ k = 10 ∨ k = 11 ∨ k = 12 ∨ k = 13 ∨ k = 14 ∨ k = 15 ∨ k = 16 ∨ k = 17 ∨ k = 18 := by omega
  rcases this with rfl | rfl | rfl | rfl | rfl | rfl | rfl | rfl | rfl | rfl | rfl | rfl | rfl | rfl | rfl | rfl | rfl | rfl | rfl <;> rfl
theorem sp_index (k : Nat) (hk : k < 19) (w : World) : (Instr.index 71 (.agg spCells) (.int .i64 k)).run Tryz.prog w = .ok (.agg #[.int .i32 ((spn.getD k (0, 0)).1 : Int), .int .i32 ((spn.getD k (0, 0)).2 : Int)]) w := by
  obtain ⟨i, hi⟩ := spInfo
  have h3 := sp_cut k hk
  generalize hE : spCells = E at h3 ⊢
  clear hE
  simp [Instr.index, asIntOf, run_underlying spDesc, hk, part, run_sizeOf w hi, spSize, h3, go_sem]
theorem any_snoc (r : Int) (k : Nat) (hk : k < spn.length) : (spn.take (k + 1)).any (inS r) = ((spn.take k).any (inS r) || inS r (spn.getD k (0, 0))) := by
  rw [List.take_succ_eq_append_getElem hk, List.any_append, List.getD_eq_getElem?_getD, List.getElem?_eq_getElem hk]
  simp
set_option maxHeartbeats 4000000 in
set_option maxRecDepth 100000 in
theorem punct_walk (r : Int) (w : World) : Calls Tryz.prog 49 #[.int .i32 r] w fun e w' => e = .returned (.bool (punct r)) ∧ Below w.heap.size w w' := by
  obtain ⟨R, hR⟩ : ∃ R, punct r = R := ⟨_, rfl⟩
  rw [hR]
  have HR := Lib.hid hR
  clear hR
  go_enter Tryz.func49, Tryz.ntmps49
  go_wp2
  go_loopw [25] (fun vi wr => ∃ k : Nat, vi = .int .i64 k ∧ k ≤ 19 ∧ Hid ((spn.take k).any (inS r) = false) ∧ Hid (Below w.heap.size w wr))
    (fun vi _ => 19 - (intOf vi).toNat)
  case atStart => exact ⟨0, rfl, by omega, rfl, Below.refl _ _⟩
  case round =>
    obtain ⟨k, rfl, hk, HP, HB⟩ := hrel
    by_cases hlt : k < 19
    · have hix := fun w => sp_index k hlt w
      simp only [spCells] at hix
      have hsn := any_snoc r k hlt
      rw [HP.out, Bool.false_or] at hsn
      have hmem : inS r (spn.getD k (0, 0)) = true → punct r = true := by
        intro h
        unfold punct
        rw [List.any_eq_true]
        refine ⟨spn.getD k (0, 0), ?_, h⟩
        rw [List.getD_eq_getElem?_getD, List.getElem?_eq_getElem (show k < spn.length from hlt)]
        exact List.getElem_mem _
      have hin : inS r (spn.getD k (0, 0)) = (decide (((spn.getD k (0, 0)).1 : Int) ≤ r) && decide (r ≤ ((spn.getD k (0, 0)).2 : Int))) := rfl
      generalize spn.getD k (0, 0) = e at hix hsn hmem hin
      have hsz := HB.out.size
      have HM := Lib.hid hmem
      have HS := Lib.hid hsn
      have HI := Lib.hid hin
      clear hmem hsn hin HP
      go_wp2_with fail
      refine (has_any _ _ _ _).mono ?_
      rintro e2 w2 ⟨rfl, hb2⟩
      have HB2 := Lib.hid ((HB.out.alloc hsz _).trans (hb2.mono (by have := hsz; simp; omega)))
      clear hb2 HB
      rw [← HI.out]
      cases hb : inS r e with
      | true =>
        have HT := Lib.hid (HM.out hb)
        clear HM HS HI hb hix
        go_wp2
        go_ret
        exact ⟨congrArg (fun z => Ending.returned (.bool z)) (HT.out.symm.trans HR.out), HB2.out⟩
      | false =>
        have HF := Lib.hid (HS.out.trans hb)
        clear HM HS HI hb hix
        go_wp2
        go_roundw
        case rel => exact ⟨k + 1, by first | rfl | simp, by omega, HF, HB2⟩
        case measure => simp [intOf]; omega
    · obtain rfl : k = 19 := by omega
      have HT := Lib.hid (show punct r = false from HP.out)
      go_wp2
      go_ret
      exact ⟨congrArg (fun z => Ending.returned (.bool z)) (HT.out.symm.trans HR.out), HB.out⟩
end Go.Proofs.YtjobchgncdgfaaaGreatDoor.PA

namespace Go.Proofs.YtjobchgncdgfaaaGreatDoor.Pl
open Go.RowKit Go.Proofs.YtjobchgncdgfaaaGreatDoorW.PrintWords Go.Proofs.YtjobchgncdgfaaaGreatDoor.PA Go.Proofs.YtjobchgncdgfaaaGreatDoor.Pure

/-! #### without backslashes and references -/
/-- Is a byte a sign? -/
def sgn (x : UInt8) : Bool := decide (x.toNat < 128) && punct (x.toNat : Int)
/-- What a text begins with, without backslash and reference, and how long it is in the text. -/
def stp : List UInt8 → List UInt8 × Nat
  | [] => ([], 1)
  | x :: t => if x = 92 ∧ ∃ y ∈ t.head?, sgn y = true then (t.take 1, 2) else if 0 < (rdE (x :: t)).2 then ((rdE (x :: t)).1.data.toList, (rdE (x :: t)).2.toNat) else ([x], 1)
theorem stp_cons (x : UInt8) (t : List UInt8) : stp (x :: t) = if x = 92 ∧ ∃ y ∈ t.head?, sgn y = true then (t.take 1, 2) else if 0 < (rdE (x :: t)).2 then ((rdE (x :: t)).1.data.toList, (rdE (x :: t)).2.toNat) else ([x], 1) := rfl
def uneF : Nat → List UInt8 → List UInt8
  | 0, _ => []
  | _ + 1, [] => []
  | n + 1, x :: t => (stp (x :: t)).1 ++ uneF n ((x :: t).drop (stp (x :: t)).2)
/-- A text without backslashes and references. -/
def une (l : List UInt8) : List UInt8 := uneF l.length l
theorem stp_pos (l : List UInt8) : 1 ≤ (stp l).2 := by
  cases l with
  | nil => exact Nat.le_refl _
  | cons x t =>
    rw [stp_cons]
    split
    · exact Nat.le_succ 1
    · split
      · show 1 ≤ (rdE (x :: t)).2.toNat
        omega
      · exact Nat.le_refl _
theorem stp_le (x : UInt8) (t : List UInt8) : (stp (x :: t)).2 ≤ (x :: t).length := by
  rw [stp_cons]
  split
  · rename_i h
    obtain ⟨_, y, hy, _⟩ := h
    cases t with
    | nil => cases hy
    | cons z u => simp
  · split
    · rcases rdE_cases (x :: t) with h | ⟨d, u, he, _, _, hr⟩
      · rename_i h0
        rw [h] at h0
        exact absurd h0 (by decide)
      · rw [hr, he]
        simp only [List.length_cons, List.length_append]
        omega
    · simp
theorem uneF_le : ∀ (n m : Nat) (l : List UInt8), l.length ≤ n → l.length ≤ m → uneF n l = uneF m l
  | n, m, [], _, _ => by cases n <;> cases m <;> rfl
  | 0, m, x :: t, h, _ => by simp at h
  | n + 1, 0, x :: t, _, h => by simp at h
  | n + 1, m + 1, x :: t, h1, h2 => by
    rw [uneF, uneF]
    congr 1
    have := stp_pos (x :: t)
    rw [List.length_cons] at h1 h2
    exact uneF_le n m _ (by rw [List.length_drop, List.length_cons]; omega) (by rw [List.length_drop, List.length_cons]; omega)
theorem une_nil : une [] = [] := rfl
theorem une_cons (x : UInt8) (t : List UInt8) : une (x :: t) = (stp (x :: t)).1 ++ une ((x :: t).drop (stp (x :: t)).2) := by
  have := stp_pos (x :: t)
  unfold une
  rw [List.length_cons, uneF]
  congr 1
  exact uneF_le _ _ _ (by rw [List.length_drop, List.length_cons]; omega) (Nat.le_refl _)
theorem stp_sgn (y : UInt8) (u : List UInt8) (h : sgn y = true) : stp (92 :: y :: u) = ([y], 2) := by
  rw [stp_cons]
  rw [if_pos ⟨rfl, y, rfl, h⟩]
  rfl
theorem rdE_ne (x : UInt8) (t : List UInt8) (h : x ≠ 38) : rdE (x :: t) = (⟨#[]⟩, 0) := by rw [rdE, if_neg h]
theorem stp_one (x : UInt8) (t : List UInt8) (h1 : x = 92 → ∀ y u, t = y :: u → sgn y = false) (h2 : ¬ 0 < (rdE (x :: t)).2) : stp (x :: t) = ([x], 1) := by
  rw [stp_cons]
  rw [if_neg, if_neg h2]
  rintro ⟨e, y, hy, hs⟩
  cases t with
  | nil => cases hy
  | cons z u =>
    obtain rfl := Option.some.inj hy
    rw [h1 e z u rfl] at hs
    cases hs
theorem stp_plain (x : UInt8) (t : List UInt8) (h1 : x ≠ 92) (h2 : x ≠ 38) : stp (x :: t) = ([x], 1) :=
  stp_one x t (fun e => absurd e h1) (by rw [rdE_ne x t h2]; decide)
theorem une_sgn (y : UInt8) (u : List UInt8) (h : sgn y = true) : une (92 :: y :: u) = y :: une u := by
  rw [une_cons, stp_sgn y u h]
  rfl
/-! #### there and back -/
end Go.Proofs.YtjobchgncdgfaaaGreatDoor.Pl

namespace Go.Proofs.YtjobchgncdgfaaaGreatDoor.PA
open Go.RowKit Go.Proofs.YtjobchgncdgfaaaGreatDoor.Pl Go.Proofs.YtjobchgncdgfaaaGreatDoorW.PrintWords Go.Proofs.YtjobchgncdgfaaaGreatDoorW.PrintLast Go.Proofs.YtjobchgncdgfaaaGreatDoorW.PrintMore Go.Proofs.YtjobchgncdgfaaaGreatDoor.Pure
set_option linter.unusedVariables false

theorem enc_le (n : Int) : (Go.Utf8.encode n).size ≤ 4 := encode_size_le n
theorem emp_le : (⟨#[]⟩ : ByteArray).size ≤ 4 := by decide
theorem wr_str (acc : List UInt8) (S : ByteArray) : Lib.byteCells acc ++ Lib.strCells S = Lib.byteCells (acc ++ S.data.toList) := by rw [Lib.byteCells_append]; rfl
theorem nmd_le (t : List UInt8) : (nmd t).1.size ≤ 4 := by
  rcases nmd_cases t with ⟨k, hk, rfl⟩ | hn
  · rw [nmd_hit k hk]
    generalize enn k = n
    exact enc_le n
  · rw [nmd_miss t hn]
    exact emp_le
theorem chr_le (b most : Nat) (ok : UInt8 → Bool) (t : List UInt8) : (chr b most ok t).1.size ≤ 4 := by
  unfold chr
  split
  · exact emp_le
  · generalize fixr (num b t) = n
    exact enc_le n
theorem bdy_le (t : List UInt8) : (bdy t).1.size ≤ 4 := by
  cases t with
  | nil => exact nmd_le []
  | cons x d =>
    by_cases hx : x = 35
    · subst hx
      cases d with
      | nil => rw [bdy_35]; exact chr_le _ _ _ _
      | cons y d =>
        rw [bdy_two]
        split
        · exact chr_le _ _ _ _
        · exact chr_le _ _ _ _
    · rw [bdy_no x d hx]
      exact nmd_le _
theorem stp_len (l : List UInt8) : (stp l).1.length ≤ 4 * (stp l).2 := by
  cases l with
  | nil => exact Nat.zero_le _
  | cons x t =>
    rw [stp_cons]
    split
    · show (t.take 1).length ≤ _
      rw [List.length_take]
      omega
    · split
      · rename_i h0
        rcases rdE_cases (x :: t) with h | ⟨d, u, he, _, _, hr⟩
        · rw [h] at h0
          exact absurd h0 (by decide)
        · have h4 := bdy_le d
          rw [hr]
          show (bdy d).1.data.toList.length ≤ 4 * ((d.length : Int) + 2).toNat
          rw [Array.length_toList]
          have : (bdy d).1.data.size ≤ 4 := h4
          omega
      · show 1 ≤ 4 * 1
        decide
theorem step_to (s acc p : List UInt8) (x : UInt8) (t : List UInt8) (n : Nat) (h : stp (x :: t) = (p, n)) (hl : (x :: t).length ≤ s.length) (hs : acc.length + 4 * (x :: t).length ≤ 4 * s.length) (he : acc ++ une (x :: t) = une s) :
    ((x :: t).drop n).length ≤ s.length ∧ (acc ++ p).length + 4 * ((x :: t).drop n).length ≤ 4 * s.length ∧ (acc ++ p) ++ une ((x :: t).drop n) = une s ∧ ((x :: t).drop n).length < (x :: t).length := by
  have h1 := stp_len (x :: t)
  have h2 := stp_pos (x :: t)
  have h3 := stp_le x t
  have h4 := une_cons x t
  rw [h] at h1 h2 h3 h4
  simp only at h1 h2 h3 h4
  rw [List.length_append, List.length_drop]
  refine ⟨by omega, by omega, ?_, by omega⟩
  rw [List.append_assoc, ← h4]
  exact he
set_option maxHeartbeats 1000000 in
theorem sign_any (x : UInt8) (w : World) : Calls Tryz.prog 36 #[.int .u8 (x.toNat : Int)] w fun e w' => e = .returned (.bool (sgn x)) ∧ Below w.heap.size w w' := by
  have hp := punct_walk (x.toNat : Int)
  by_cases h : x.toNat < 128
  · have hs : sgn x = punct (x.toNat : Int) := by unfold sgn; rw [decide_eq_true h, Bool.true_and]
    rw [← hs] at hp
    have q : decide ((x.toNat : Int) < 128) = true := decide_eq_true (by omega)
    have HP := Lib.hid hp
    clear hp hs
    go_enter Tryz.func36, Tryz.ntmps36
    go_wp2_with (first | (go_at_call 49; refine (HP.out _).mono ?_; rintro e w' ⟨rfl, hb⟩; have HB := Lib.hid hb; clear hb))
    go_ret
    exact ⟨rfl, HB.out⟩
  · have hs : sgn x = false := by unfold sgn; rw [decide_eq_false h, Bool.false_and]
    rw [hs]
    have q : decide ((x.toNat : Int) < 128) = false := decide_eq_false (by omega)
    clear hp hs
    go_enter Tryz.func36, Tryz.ntmps36
    go_wp2
    go_ret
    exact ⟨rfl, Below.refl _ _⟩
theorem isB_belowU {T e B b : Nat} {bs : List Value} {w w' : World} (h : Lib.IsBuilder T e B b bs w) (hb : Below w.heap.size w w') : Lib.IsBuilder T e B b bs w' := by
  have go : ∀ p, Lib.BuilderAt T e B b p bs w → Lib.BuilderAt T e B b p bs w' := by
    intro p h
    have hlt := h.lt
    obtain ⟨h1, v, h2, h3, h4⟩ := h
    exact ⟨h1, v, (hb.block _ hlt).trans h2, pw_own_below h3 hb, h4⟩
  rcases h with h | h
  · exact .inl (go _ h)
  · exact .inr (go _ h)
set_option maxHeartbeats 8000000 in
set_option maxRecDepth 100000 in
theorem unesc_walk (s : List UInt8) (hs : s.length ≤ 1048576) (w : World) (hLd : Laid w) :
    Calls Tryz.prog 26 #[.string (B s)] w fun e w' => e = .returned (.string (B (une s))) ∧ Below w.heap.size w w' := by
  have HL := Lib.hid hLd
  clear hLd
  go_enter Tryz.func26, Tryz.ntmps26
  go_wp2
  go_loopw [0] (fun v0 wr => ∃ l acc : List UInt8, v0 = .string (B l) ∧ l.length ≤ s.length ∧ Hid (acc.length + 4 * l.length ≤ 4 * s.length) ∧ Hid (acc ++ une l = une s) ∧ Hid (Lib.IsBuilder 44 5 w.heap.size w.heap.size (Lib.byteCells acc) wr) ∧ Hid (Below w.heap.size w wr)) (fun v0 _ => match v0 with | .string x => x.size | _ => 0)
  case atStart => exact ⟨s, [], rfl, Nat.le_refl _, Lib.hid (by simp), Lib.hid rfl, Lib.hid (Lib.fresh_isBuilder _ _ w), Lib.hid ((Below.refl _ w).alloc (Nat.le_refl _) _)⟩
  case round =>
    obtain ⟨l, acc, rfl, hl, HS, HE, HI, HB⟩ := hrel
    cases l with
    | nil =>
      have hE : acc = une s := (List.append_nil acc).symm.trans HE.out
      have hne : (B []).toList = [] := B_toList []
      have hI := HI.out
      rw [hE] at hI
      have HI2 := Lib.hid hI
      have hbs := HB.out.size
      clear hI hE
      go_wp2_with (go_at_call 41; refine (Tryz.Builder_String_any w.heap.size w.heap.size (une s) _ HI2.out hbs).mono ?_; rintro e w1 ⟨rfl, hb1⟩)
      repeat (first | refine ex_noGoto_ret ?_ | refine ex_block_ret ?_ | refine ex_then_ret ?_)
      go_ret
      exact ⟨rfl, HB.out.trans hb1⟩
    | cons x t =>
      have hne : (B (x :: t)).toList.isEmpty = false := by rw [B_toList]; rfl
      have hne2 : (B (x :: t)).toList = x :: t := B_toList _
      have hsz : (B (x :: t)).size = t.length + 1 := B_size _
      have hz : 0 < (B (x :: t)).size := by omega
      have hi0 : (B (x :: t))[0]'hz = x := rfl
      have h01 : (B (x :: t)).extract 0 1 = B [x] := by rw [B_to]; rfl
      have h1n : (B (x :: t)).extract 1 (t.length + 1) = B t := B_from (x :: t) 1 _ rfl
      have hbs := HB.out.size
      by_cases h92 : x = 92
      · have q92 : ((x.toNat : Int) == 92) = true := by rw [h92]; rfl
        have q38 : ((x.toNat : Int) == 38) = false := by rw [h92]; rfl
        have hrd : ¬ 0 < (rdE (x :: t)).2 := by rw [rdE_ne x t (by rw [h92]; decide)]; decide
        cases t with
        | nil =>
          have hst : stp (x :: []) = ([x], 1) := stp_one x [] (fun _ y u e => by cases e) hrd
          clear hrd h92
          have hp4 : (B [x]).size ≤ 4 := by rw [B_size]; simp
          have hpd : (B [x]).data.toList = [x] := B_data _
          have HB1 := HB
          have HI1 := HI
          have hbs1 := hbs
          have HF := Lib.hid (step_to s acc [x] x ([]) 1 hst hl HS.out HE.out)
          have hS4 := Lib.hid (show acc.length + (B [x]).size ≤ 140737488355328 by have := HS.out; have := hp4; omega)
          have HSd := Lib.hid (show (B [x]).data.toList = [x] from hpd)
          clear hst hl HS HE hp4 hpd
          go_wp2_with fail
          with_reducible refine (Tryz.Builder_WriteString w.heap.size w.heap.size _ (B [x]) _ HI1.out (by rw [Lib.byteCells_length]; exact hS4.out) hbs1).mono ?_
          rintro e w2 ⟨rfl, h2, b2⟩
          rw [wr_str, HSd.out] at h2
          have HI2 := Lib.hid h2
          have HB2 := Lib.hid (HB1.out.trans b2)
          clear h2 b2
          go_wp2
          go_roundw
          case rel => exact ⟨_, _, rfl, HF.out.1, Lib.hid HF.out.2.1, Lib.hid HF.out.2.2.1, Lib.hid (.inr HI2.out), HB2⟩
          case measure =>
            change (B ((x :: []).drop 1)).size < (B (x :: [])).size
            rw [B_size, B_size]
            exact HF.out.2.2.2
        | cons y u =>
          have hz2 : 1 < (B (x :: y :: u)).size := by rw [B_size]; simp
          have hi1 : (B (x :: y :: u))[1]'hz2 = y := rfl
          have h12 : (B (x :: y :: u)).extract 1 2 = B [y] := by rw [B_extract]; rfl
          have hz3 : 2 ≤ (B (x :: y :: u)).size := hz2
          have hz4 : 2 ≤ u.length + 1 + 1 := by omega
          have hz5 : (2 : Int) ≤ ((B (x :: y :: u)).size : Int) := by omega
          have hz6 : (2 : Int) ≤ (u.length : Int) + 1 + 1 := by omega
          have h2n : (B (x :: y :: u)).extract 2 (u.length + 1 + 1) = B u := B_from (x :: y :: u) 2 _ rfl
          have hgt : decide ((1 : Int) < (((y :: u).length : Nat) : Int) + 1) = true := decide_eq_true (by rw [List.length_cons]; omega)
          have HG := Lib.hid (sign_any y)
          simp only [List.length_cons] at hgt hsz h1n
          cases hsg : sgn y with
          | true =>
            rw [hsg] at HG
            have hst : stp (x :: y :: u) = ([y], 2) := by rw [h92]; exact stp_sgn y u hsg
            clear hrd h92 hsg
            have hp4 : (B [y]).size ≤ 4 := by rw [B_size]; simp
            have hpd : (B [y]).data.toList = [y] := B_data _
            go_wp2_with fail
            refine (HG.out _).mono ?_
            rintro e w1 ⟨rfl, hb1⟩
            have HB1 := Lib.hid (HB.out.trans (hb1.mono hbs))
            have HI1 := Lib.hid (isB_belowU HI.out hb1)
            have hbs1 := HB1.out.size
            clear hb1
            have HF := Lib.hid (step_to s acc [y] x (y :: u) 2 hst hl HS.out HE.out)
            have hS4 := Lib.hid (show acc.length + (B [y]).size ≤ 140737488355328 by have := HS.out; have := hp4; omega)
            have HSd := Lib.hid (show (B [y]).data.toList = [y] from hpd)
            clear hst hl HS HE hp4 hpd
            go_wp2_with fail
            with_reducible refine (Tryz.Builder_WriteString w.heap.size w.heap.size _ (B [y]) _ HI1.out (by rw [Lib.byteCells_length]; exact hS4.out) hbs1).mono ?_
            rintro e w2 ⟨rfl, h2, b2⟩
            rw [wr_str, HSd.out] at h2
            have HI2 := Lib.hid h2
            have HB2 := Lib.hid (HB1.out.trans b2)
            clear h2 b2
            go_wp2
            go_roundw
            case rel => exact ⟨_, _, rfl, HF.out.1, Lib.hid HF.out.2.1, Lib.hid HF.out.2.2.1, Lib.hid (.inr HI2.out), HB2⟩
            case measure =>
              change (B ((x :: y :: u).drop 2)).size < (B (x :: y :: u)).size
              rw [B_size, B_size]
              exact HF.out.2.2.2
          | false =>
            rw [hsg] at HG
            have hst : stp (x :: y :: u) = ([x], 1) := stp_one x (y :: u) (fun _ y' u' e => by cases e; exact hsg) hrd
            clear hrd h92 hsg
            have hp4 : (B [x]).size ≤ 4 := by rw [B_size]; simp
            have hpd : (B [x]).data.toList = [x] := B_data _
            go_wp2_with fail
            refine (HG.out _).mono ?_
            rintro e w1 ⟨rfl, hb1⟩
            have HB1 := Lib.hid (HB.out.trans (hb1.mono hbs))
            have HI1 := Lib.hid (isB_belowU HI.out hb1)
            have hbs1 := HB1.out.size
            clear hb1
            have HF := Lib.hid (step_to s acc [x] x (y :: u) 1 hst hl HS.out HE.out)
            have hS4 := Lib.hid (show acc.length + (B [x]).size ≤ 140737488355328 by have := HS.out; have := hp4; omega)
            have HSd := Lib.hid (show (B [x]).data.toList = [x] from hpd)
            clear hst hl HS HE hp4 hpd
            go_wp2_with fail
            with_reducible refine (Tryz.Builder_WriteString w.heap.size w.heap.size _ (B [x]) _ HI1.out (by rw [Lib.byteCells_length]; exact hS4.out) hbs1).mono ?_
            rintro e w2 ⟨rfl, h2, b2⟩
            rw [wr_str, HSd.out] at h2
            have HI2 := Lib.hid h2
            have HB2 := Lib.hid (HB1.out.trans b2)
            clear h2 b2
            go_wp2
            go_roundw
            case rel => exact ⟨_, _, rfl, HF.out.1, Lib.hid HF.out.2.1, Lib.hid HF.out.2.2.1, Lib.hid (.inr HI2.out), HB2⟩
            case measure =>
              change (B ((x :: y :: u).drop 1)).size < (B (x :: y :: u)).size
              rw [B_size, B_size]
              exact HF.out.2.2.2
      · have q92 : ((x.toNat : Int) == 92) = false := beq_eq_false_iff_ne.2 (fun e => h92 ((u8_eq x 92 (by decide)).1 e))
        by_cases h38 : x = 38
        · have q38 : ((x.toNat : Int) == 38) = true := by rw [h38]; rfl
          have HRd := Lib.hid (fun W hW => read_walk (x :: t) (by rw [List.length_cons] at hl ⊢; omega) W hW)
          by_cases hk : 0 < (rdE (x :: t)).2
          · have hst0 : stp (x :: t) = ((rdE (x :: t)).1.data.toList, (rdE (x :: t)).2.toNat) := by rw [stp_cons, if_neg (fun e => h92 e.1), if_pos hk]
            obtain ⟨kn, hkn⟩ := Int.eq_ofNat_of_zero_le (show 0 ≤ (rdE (x :: t)).2 by omega)
            have hle := stp_le x t
            have hl4 := stp_len (x :: t)
            obtain ⟨Q, hQ⟩ : ∃ Q, (rdE (x :: t)).1 = Q := ⟨_, rfl⟩
            rw [hst0] at hle hl4
            simp only [hkn, hQ, Int.toNat_natCast] at hle hl4
            rw [hkn, hQ] at HRd
            have hst : stp (x :: t) = (Q.data.toList, kn) := by rw [hst0, hkn, hQ, Int.toNat_natCast]
            have qk : decide (0 < (kn : Int)) = true := decide_eq_true (by omega)
            have qk2 : 0 < kn := by omega
            have qk3 : (0 : Int) < (kn : Int) := by omega
            have hp4 : Q.size ≤ 4 * s.length := by
              have e : Q.data.toList.length = Q.size := Array.length_toList
              omega
            have hpd : Q.data.toList = Q.data.toList := rfl
            have hkn2 : kn ≤ t.length + 1 := by rw [List.length_cons] at hle; exact hle
            have hkn3 : kn ≤ (B (x :: t)).size := by rw [hsz]; exact hkn2
            have hkx : (B (x :: t)).extract kn (t.length + 1) = B ((x :: t).drop kn) := B_from (x :: t) kn _ rfl
            clear hst0 hkn hQ hle hl4 hk h92 h38
            go_wp2_with fail
            refine (HRd.out _ (HL.out.go HB.out)).mono ?_
            rintro e w1 ⟨rfl, hb1⟩
            have HB1 := Lib.hid (HB.out.trans (hb1.mono hbs))
            have HI1 := Lib.hid (isB_belowU HI.out hb1)
            have hbs1 := HB1.out.size
            clear hb1
            have HF := Lib.hid (step_to s acc Q.data.toList x (t) kn hst hl HS.out HE.out)
            have hS4 := Lib.hid (show acc.length + Q.size ≤ 140737488355328 by have := HS.out; have := hp4; omega)
            have HSd := Lib.hid (show (Q).data.toList = Q.data.toList from rfl)
            clear hst hl HS HE hp4
            go_wp2_with fail
            with_reducible refine (Tryz.Builder_WriteString w.heap.size w.heap.size _ (Q) _ HI1.out (by rw [Lib.byteCells_length]; exact hS4.out) hbs1).mono ?_
            rintro e w2 ⟨rfl, h2, b2⟩
            rw [wr_str] at h2
            have HI2 := Lib.hid h2
            have HB2 := Lib.hid (HB1.out.trans b2)
            clear h2 b2
            go_wp2
            go_roundw
            case rel => exact ⟨_, _, rfl, HF.out.1, Lib.hid HF.out.2.1, Lib.hid HF.out.2.2.1, Lib.hid (.inr HI2.out), HB2⟩
            case measure =>
              change (B ((x :: t).drop kn)).size < (B (x :: t)).size
              rw [B_size, B_size]
              exact HF.out.2.2.2
          · have hst : stp (x :: t) = ([x], 1) := stp_one x t (fun e => absurd e h92) hk
            have hr0 : rdE (x :: t) = (⟨#[]⟩, 0) := by
              rcases rdE_cases (x :: t) with h | ⟨d, u, he, _, _, hr⟩
              · exact h
              · rw [hr] at hk
                exact absurd (show (0 : Int) < (d.length : Int) + 2 by omega) hk
            rw [hr0] at HRd
            clear hr0 hk h92 h38
            have hp4 : (B [x]).size ≤ 4 := by rw [B_size]; simp
            have hpd : (B [x]).data.toList = [x] := B_data _
            go_wp2_with fail
            refine (HRd.out _ (HL.out.go HB.out)).mono ?_
            rintro e w1 ⟨rfl, hb1⟩
            have HB1 := Lib.hid (HB.out.trans (hb1.mono hbs))
            have HI1 := Lib.hid (isB_belowU HI.out hb1)
            have hbs1 := HB1.out.size
            clear hb1
            have HF := Lib.hid (step_to s acc [x] x (t) 1 hst hl HS.out HE.out)
            have hS4 := Lib.hid (show acc.length + (B [x]).size ≤ 140737488355328 by have := HS.out; have := hp4; omega)
            have HSd := Lib.hid (show (B [x]).data.toList = [x] from hpd)
            clear hst hl HS HE hp4 hpd
            go_wp2_with fail
            with_reducible refine (Tryz.Builder_WriteString w.heap.size w.heap.size _ (B [x]) _ HI1.out (by rw [Lib.byteCells_length]; exact hS4.out) hbs1).mono ?_
            rintro e w2 ⟨rfl, h2, b2⟩
            rw [wr_str, HSd.out] at h2
            have HI2 := Lib.hid h2
            have HB2 := Lib.hid (HB1.out.trans b2)
            clear h2 b2
            go_wp2
            go_roundw
            case rel => exact ⟨_, _, rfl, HF.out.1, Lib.hid HF.out.2.1, Lib.hid HF.out.2.2.1, Lib.hid (.inr HI2.out), HB2⟩
            case measure =>
              change (B ((x :: t).drop 1)).size < (B (x :: t)).size
              rw [B_size, B_size]
              exact HF.out.2.2.2
        · have q38 : ((x.toNat : Int) == 38) = false := beq_eq_false_iff_ne.2 (fun e => h38 ((u8_eq x 38 (by decide)).1 e))
          have hst : stp (x :: t) = ([x], 1) := stp_plain x t h92 h38
          clear h92 h38
          have hp4 : (B [x]).size ≤ 4 := by rw [B_size]; simp
          have hpd : (B [x]).data.toList = [x] := B_data _
          have HB1 := HB
          have HI1 := HI
          have hbs1 := hbs
          have HF := Lib.hid (step_to s acc [x] x (t) 1 hst hl HS.out HE.out)
          have hS4 := Lib.hid (show acc.length + (B [x]).size ≤ 140737488355328 by have := HS.out; have := hp4; omega)
          have HSd := Lib.hid (show (B [x]).data.toList = [x] from hpd)
          clear hst hl HS HE hp4 hpd
          go_wp2_with fail
          with_reducible refine (Tryz.Builder_WriteString w.heap.size w.heap.size _ (B [x]) _ HI1.out (by rw [Lib.byteCells_length]; exact hS4.out) hbs1).mono ?_
          rintro e w2 ⟨rfl, h2, b2⟩
          rw [wr_str, HSd.out] at h2
          have HI2 := Lib.hid h2
          have HB2 := Lib.hid (HB1.out.trans b2)
          clear h2 b2
          go_wp2
          go_roundw
          case rel => exact ⟨_, _, rfl, HF.out.1, Lib.hid HF.out.2.1, Lib.hid HF.out.2.2.1, Lib.hid (.inr HI2.out), HB2⟩
          case measure =>
            change (B ((x :: t).drop 1)).size < (B (x :: t)).size
            rw [B_size, B_size]
            exact HF.out.2.2.2
end Go.Proofs.YtjobchgncdgfaaaGreatDoor.PA

namespace Go.Proofs.YtjobchgncdgfaaaGreatDoor.PA
open Go.RowKit Go.Proofs.YtjobchgncdgfaaaGreatDoor.Pl Go.Proofs.YtjobchgncdgfaaaGreatDoor.Pure Go.Proofs.YtjobchgncdgfaaaGreatDoorW.PrintWords Go.Proofs.YtjobchgncdgfaaaGreatDoorW.PrintLast Go.Proofs.YtjobchgncdgfaaaGreatDoorW.PrintMore
set_option linter.unusedVariables false

/-- How far the bytes go that are not told. -/
def eachL (p : UInt8 → Bool) : List UInt8 → Nat
  | [] => 0
  | [x] => if p x = true then 0 else 1
  | x :: y :: t => if x = 92 ∧ sgn y = true then eachL p t + 2 else if p x = true then 0 else eachL p (y :: t) + 1
theorem each_esc (p : UInt8 → Bool) (x y : UInt8) (t : List UInt8) (h : x = 92) (h2 : sgn y = true) : eachL p (x :: y :: t) = eachL p t + 2 := by rw [eachL, if_pos ⟨h, h2⟩]
theorem each_one (p : UInt8 → Bool) (x : UInt8) (t : List UInt8) (h : x = 92 → ∀ y u, t = y :: u → sgn y = false) : eachL p (x :: t) = if p x = true then 0 else eachL p t + 1 := by
  cases t with
  | nil => rfl
  | cons y u =>
    rw [eachL, if_neg]
    rintro ⟨h1, h2⟩
    rw [h h1 y u rfl] at h2
    cases h2
/-- The label's end. -/
def pLab (x : UInt8) : Bool := decide (x = 91) || decide (x = 93)
theorem lab1 (x : UInt8) (w : World) : Calls Tryz.prog 22 #[.int .u8 (x.toNat : Int)] w fun e w' => e = .returned (.bool (pLab x)) ∧ w = w' := by
  have e1 : ((x.toNat : Int) = 91) ↔ x = 91 := u8_eq _ 91 (by omega)
  have e2 : ((x.toNat : Int) = 93) ↔ x = 93 := u8_eq _ 93 (by omega)
  by_cases h1 : x = 91
  · have HD := Lib.hid (show pLab x = true by unfold pLab; rw [decide_eq_true h1]; rfl)
    have q : ((x.toNat : Int) == 91) = true := beq_iff_eq.2 (e1.2 h1)
    clear e1 e2 h1
    go_enter Tryz.func22, Tryz.ntmps22
    go_wp2
    go_ret
    exact ⟨congrArg (fun z => Ending.returned (.bool z)) HD.out.symm, rfl⟩
  · have q : ((x.toNat : Int) == 91) = false := beq_eq_false_iff_ne.2 (fun e => h1 (e1.1 e))
    by_cases h2 : x = 93
    · have HD := Lib.hid (show pLab x = true by unfold pLab; rw [decide_eq_true h2, Bool.or_true])
      have q2 : ((x.toNat : Int) == 93) = true := beq_iff_eq.2 (e2.2 h2)
      clear e1 e2 h1 h2
      go_enter Tryz.func22, Tryz.ntmps22
      go_wp2
      go_ret
      exact ⟨congrArg (fun z => Ending.returned (.bool z)) HD.out.symm, rfl⟩
    · have HD := Lib.hid (show pLab x = false by unfold pLab; rw [decide_eq_false h1, decide_eq_false h2]; rfl)
      have q2 : ((x.toNat : Int) == 93) = false := beq_eq_false_iff_ne.2 (fun e => h2 (e2.1 e))
      clear e1 e2 h1 h2
      go_enter Tryz.func22, Tryz.ntmps22
      go_wp2
      go_ret
      exact ⟨congrArg (fun z => Ending.returned (.bool z)) HD.out.symm, rfl⟩
theorem eachL_le (p : UInt8 → Bool) : ∀ l : List UInt8, eachL p l ≤ l.length
  | [] => Nat.le_refl _
  | [x] => by unfold eachL; split <;> simp
  | x :: y :: t => by
    have h1 := eachL_le p t
    have h2 := eachL_le p (y :: t)
    unfold eachL
    split
    · simp only [List.length_cons]; omega
    · split
      · exact Nat.zero_le _
      · simp only [List.length_cons] at h2 ⊢; omega
set_option maxHeartbeats 4000000 in
set_option maxRecDepth 100000 in
theorem each_lab (s : List UInt8) (hs : s.length ≤ 1099511627776) (f : Nat) (hf : f ≤ s.length) (w : World) : Calls Tryz.prog 21 #[.string (B s), .int .i64 f, .func (.func 22) #[] #[]] w fun e w' => e = .returned (.int .i64 ((f + eachL pLab (s.drop f) : Nat) : Int)) ∧ Below w.heap.size w w' := by
  have hsz : (B s).size = s.length := B_size s
  obtain ⟨R, hR⟩ : ∃ R, f + eachL pLab (s.drop f) = R := ⟨_, rfl⟩
  rw [hR]
  go_enter Tryz.func21, Tryz.ntmps21
  go_wp2
  go_loopw [7] (fun vi wr => ∃ k : Nat, vi = .int .i64 k ∧ k ≤ s.length ∧ Hid (k + eachL pLab (s.drop k) = R) ∧ Hid (Below w.heap.size w wr))
    (fun vi _ => s.length - (intOf vi).toNat)
  case atStart => exact ⟨f, rfl, hf, hR, Below.refl _ _⟩
  case round =>
    obtain ⟨k, rfl, hk, HA, HB⟩ := hrel
    by_cases hkn : k < s.length
    · have hks : k < (B s).size := by omega
      have hi : (B s)[k]'hks = s[k] := List.getElem_toArray hkn
      obtain ⟨x, hx⟩ : ∃ x, s[k] = x := ⟨_, rfl⟩
      have hdr : s.drop k = x :: s.drop (k + 1) := by rw [← hx]; exact List.drop_eq_getElem_cons hkn
      rw [hx] at hi
      have hA := HA.out
      rw [hdr] at hA
      have hsz2 := HB.out.size
      by_cases h92 : x = 92
      · have q : (((x.toNat : Nat) : Int) == 92) = true := by rw [h92]; rfl
        by_cases hk1 : k + 1 < s.length
        · have hks1 : k + 1 < (B s).size := by omega
          have hi1 : (B s)[k + 1]'hks1 = s[k + 1] := List.getElem_toArray hk1
          have q1 : decide ((k : Int) + 1 < (s.length : Int)) = true := decide_eq_true (by omega)
          obtain ⟨y, hy⟩ : ∃ y, s[k + 1] = y := ⟨_, rfl⟩
          have hdr2 : s.drop (k + 1) = y :: s.drop (k + 2) := by rw [← hy]; exact List.drop_eq_getElem_cons hk1
          rw [hy] at hi1
          rw [hdr2] at hA
          have HS := Lib.hid (sign_any y wr)
          cases hsg : sgn y with
          | true =>
            rw [each_esc pLab x y _ h92 hsg] at hA
            have HR := Lib.hid (show (k + 2) + eachL pLab (s.drop (k + 2)) = R by omega)
            clear hA hdr hdr2 h92 hx hy
            go_wp2_with fail
            refine HS.out.mono ?_
            rintro e w2 ⟨rfl, hb2⟩
            rw [hsg]
            have HB2 := Lib.hid (HB.out.trans (hb2.mono hsz2))
            clear hb2 HS hsg HB
            go_wp2
            go_roundw
            case rel => exact ⟨k + 2, by go_num, by omega, HR, HB2⟩
            case measure => simp [intOf]; omega
          | false =>
            rw [each_one pLab x _ (fun _ y' u e => by cases e; exact hsg), ← hdr2] at hA
            clear hdr hdr2 h92 hx hy
            go_wp2_with fail
            refine HS.out.mono ?_
            rintro e w2 ⟨rfl, hb2⟩
            rw [hsg]
            have HB2 := Lib.hid (HB.out.trans (hb2.mono hsz2))
            clear hb2 HS hsg HB
            go_wp2_with fail
            refine (lab1 x _).mono ?_
            rintro e w3 ⟨rfl, rfl⟩
            cases hp : pLab x with
            | true =>
              rw [hp, if_pos rfl] at hA
              have HR := Lib.hid hA
              clear hA hp
              go_wp2
              go_ret
              exact ⟨congrArg (fun z => Ending.returned (.int .i64 z)) (by have := HR.out; omega), HB2.out⟩
            | false =>
              rw [hp, if_neg (by decide)] at hA
              have HR := Lib.hid (show (k + 1) + eachL pLab (s.drop (k + 1)) = R by omega)
              clear hA hp
              go_wp2
              go_roundw
              case rel => exact ⟨k + 1, by go_num, by omega, HR, HB2⟩
              case measure => simp [intOf]; omega
        · have q1 : decide ((k : Int) + 1 < (s.length : Int)) = false := decide_eq_false (by omega)
          have hnil : s.drop (k + 1) = [] := List.drop_of_length_le (by omega)
          rw [each_one pLab x _ (fun _ y' u e => by rw [hnil] at e; cases e)] at hA
          clear hdr h92 hx hnil
          go_wp2_with fail
          refine (lab1 x _).mono ?_
          rintro e w3 ⟨rfl, rfl⟩
          cases hp : pLab x with
          | true =>
            rw [hp, if_pos rfl] at hA
            have HR := Lib.hid hA
            clear hA hp
            go_wp2
            go_ret
            exact ⟨congrArg (fun z => Ending.returned (.int .i64 z)) (by have := HR.out; omega), HB.out⟩
          | false =>
            rw [hp, if_neg (by decide)] at hA
            have HR := Lib.hid (show (k + 1) + eachL pLab (s.drop (k + 1)) = R by omega)
            clear hA hp
            go_wp2
            go_roundw
            case rel => exact ⟨k + 1, by go_num, by omega, HR, HB⟩
            case measure => simp [intOf]; omega
      · have q : (((x.toNat : Nat) : Int) == 92) = false := beq_eq_false_iff_ne.2 (fun e => h92 ((u8_eq x 92 (by omega)).1 e))
        rw [each_one pLab x _ (fun e => absurd e h92)] at hA
        clear hdr h92 hx
        go_wp2_with fail
        refine (lab1 x _).mono ?_
        rintro e w3 ⟨rfl, rfl⟩
        cases hp : pLab x with
        | true =>
          rw [hp, if_pos rfl] at hA
          have HR := Lib.hid hA
          clear hA hp
          go_wp2
          go_ret
          exact ⟨congrArg (fun z => Ending.returned (.int .i64 z)) (by have := HR.out; omega), HB.out⟩
        | false =>
          rw [hp, if_neg (by decide)] at hA
          have HR := Lib.hid (show (k + 1) + eachL pLab (s.drop (k + 1)) = R by omega)
          clear hA hp
          go_wp2
          go_roundw
          case rel => exact ⟨k + 1, by go_num, by omega, HR, HB⟩
          case measure => simp [intOf]; omega
    · have hnil : s.drop k = [] := List.drop_of_length_le (by omega)
      have HR := Lib.hid (show s.length = R by have := HA.out; rw [hnil] at this; simp [eachL] at this; omega)
      clear HA hnil
      go_wp2
      go_ret
      exact ⟨congrArg (fun z => Ending.returned (.int .i64 z)) (by have := HR.out; omega), HB.out⟩
end Go.Proofs.YtjobchgncdgfaaaGreatDoor.PA

namespace Go.Proofs.YtjobchgncdgfaaaGreatDoor.PA
open Go.RowKit Go.Proofs.YtjobchgncdgfaaaGreatDoor.Pl Go.Proofs.YtjobchgncdgfaaaGreatDoor.Pure Go.Proofs.YtjobchgncdgfaaaGreatDoorW.PrintWords Go.Proofs.YtjobchgncdgfaaaGreatDoorW.PrintLast Go.Proofs.YtjobchgncdgfaaaGreatDoorW.PrintMore
set_option linter.unusedVariables false

/-- The address' end. -/
def pAng (x : UInt8) : Bool := decide (x = 60) || decide (x = 62) || decide (x = 10)
theorem ang1 (x : UInt8) (w : World) : Calls Tryz.prog 38 #[.int .u8 (x.toNat : Int)] w fun e w' => e = .returned (.bool (pAng x)) ∧ w = w' := by
  have e0 : ((x.toNat : Int) = 60) ↔ x = 60 := u8_eq _ 60 (by omega)
  have e1 : ((x.toNat : Int) = 62) ↔ x = 62 := u8_eq _ 62 (by omega)
  have e2 : ((x.toNat : Int) = 10) ↔ x = 10 := u8_eq _ 10 (by omega)
  by_cases h0 : x = 60
  · have HD := Lib.hid (show pAng x = true by rw [h0]; decide)
    have q0 : ((x.toNat : Int) == 60) = true := beq_iff_eq.2 (e0.2 h0)
    clear h0
    clear e0 e1 e2
    go_enter Tryz.func38, Tryz.ntmps38
    go_wp2
    go_ret
    exact ⟨congrArg (fun z => Ending.returned (.bool z)) HD.out.symm, rfl⟩
  · have q0 : ((x.toNat : Int) == 60) = false := beq_eq_false_iff_ne.2 (fun e => h0 (e0.1 e))
    by_cases h1 : x = 62
    · have HD := Lib.hid (show pAng x = true by rw [h1]; decide)
      have q1 : ((x.toNat : Int) == 62) = true := beq_iff_eq.2 (e1.2 h1)
      clear h0 h1
      clear e0 e1 e2
      go_enter Tryz.func38, Tryz.ntmps38
      go_wp2
      go_ret
      exact ⟨congrArg (fun z => Ending.returned (.bool z)) HD.out.symm, rfl⟩
    · have q1 : ((x.toNat : Int) == 62) = false := beq_eq_false_iff_ne.2 (fun e => h1 (e1.1 e))
      by_cases h2 : x = 10
      · have HD := Lib.hid (show pAng x = true by rw [h2]; decide)
        have q2 : ((x.toNat : Int) == 10) = true := beq_iff_eq.2 (e2.2 h2)
        clear h0 h1 h2
        clear e0 e1 e2
        go_enter Tryz.func38, Tryz.ntmps38
        go_wp2
        go_ret
        exact ⟨congrArg (fun z => Ending.returned (.bool z)) HD.out.symm, rfl⟩
      · have q2 : ((x.toNat : Int) == 10) = false := beq_eq_false_iff_ne.2 (fun e => h2 (e2.1 e))
        have HD := Lib.hid (show pAng x = false by unfold pAng; rw [decide_eq_false h0, decide_eq_false h1, decide_eq_false h2]; rfl)
        clear h0 h1 h2
        clear e0 e1 e2
        go_enter Tryz.func38, Tryz.ntmps38
        go_wp2
        go_ret
        exact ⟨congrArg (fun z => Ending.returned (.bool z)) HD.out.symm, rfl⟩
set_option maxHeartbeats 4000000 in
set_option maxRecDepth 100000 in
theorem each_ang (s : List UInt8) (hs : s.length ≤ 1099511627776) (f : Nat) (hf : f ≤ s.length) (w : World) : Calls Tryz.prog 21 #[.string (B s), .int .i64 f, .func (.func 38) #[] #[]] w fun e w' => e = .returned (.int .i64 ((f + eachL pAng (s.drop f) : Nat) : Int)) ∧ Below w.heap.size w w' := by
  have hsz : (B s).size = s.length := B_size s
  obtain ⟨R, hR⟩ : ∃ R, f + eachL pAng (s.drop f) = R := ⟨_, rfl⟩
  rw [hR]
  go_enter Tryz.func21, Tryz.ntmps21
  go_wp2
  go_loopw [7] (fun vi wr => ∃ k : Nat, vi = .int .i64 k ∧ k ≤ s.length ∧ Hid (k + eachL pAng (s.drop k) = R) ∧ Hid (Below w.heap.size w wr))
    (fun vi _ => s.length - (intOf vi).toNat)
  case atStart => exact ⟨f, rfl, hf, hR, Below.refl _ _⟩
  case round =>
    obtain ⟨k, rfl, hk, HA, HB⟩ := hrel
    by_cases hkn : k < s.length
    · have hks : k < (B s).size := by omega
      have hi : (B s)[k]'hks = s[k] := List.getElem_toArray hkn
      obtain ⟨x, hx⟩ : ∃ x, s[k] = x := ⟨_, rfl⟩
      have hdr : s.drop k = x :: s.drop (k + 1) := by rw [← hx]; exact List.drop_eq_getElem_cons hkn
      rw [hx] at hi
      have hA := HA.out
      rw [hdr] at hA
      have hsz2 := HB.out.size
      by_cases h92 : x = 92
      · have q : (((x.toNat : Nat) : Int) == 92) = true := by rw [h92]; rfl
        by_cases hk1 : k + 1 < s.length
        · have hks1 : k + 1 < (B s).size := by omega
          have hi1 : (B s)[k + 1]'hks1 = s[k + 1] := List.getElem_toArray hk1
          have q1 : decide ((k : Int) + 1 < (s.length : Int)) = true := decide_eq_true (by omega)
          obtain ⟨y, hy⟩ : ∃ y, s[k + 1] = y := ⟨_, rfl⟩
          have hdr2 : s.drop (k + 1) = y :: s.drop (k + 2) := by rw [← hy]; exact List.drop_eq_getElem_cons hk1
          rw [hy] at hi1
          rw [hdr2] at hA
          have HS := Lib.hid (sign_any y wr)
          cases hsg : sgn y with
          | true =>
            rw [each_esc pAng x y _ h92 hsg] at hA
            have HR := Lib.hid (show (k + 2) + eachL pAng (s.drop (k + 2)) = R by omega)
            clear hA hdr hdr2 h92 hx hy
            go_wp2_with fail
            refine HS.out.mono ?_
            rintro e w2 ⟨rfl, hb2⟩
            rw [hsg]
            have HB2 := Lib.hid (HB.out.trans (hb2.mono hsz2))
            clear hb2 HS hsg HB
            go_wp2
            go_roundw
            case rel => exact ⟨k + 2, by go_num, by omega, HR, HB2⟩
            case measure => simp [intOf]; omega
          | false =>
            rw [each_one pAng x _ (fun _ y' u e => by cases e; exact hsg), ← hdr2] at hA
            clear hdr hdr2 h92 hx hy
            go_wp2_with fail
            refine HS.out.mono ?_
            rintro e w2 ⟨rfl, hb2⟩
            rw [hsg]
            have HB2 := Lib.hid (HB.out.trans (hb2.mono hsz2))
            clear hb2 HS hsg HB
            go_wp2_with fail
            refine (ang1 x _).mono ?_
            rintro e w3 ⟨rfl, rfl⟩
            cases hp : pAng x with
            | true =>
              rw [hp, if_pos rfl] at hA
              have HR := Lib.hid hA
              clear hA hp
              go_wp2
              go_ret
              exact ⟨congrArg (fun z => Ending.returned (.int .i64 z)) (by have := HR.out; omega), HB2.out⟩
            | false =>
              rw [hp, if_neg (by decide)] at hA
              have HR := Lib.hid (show (k + 1) + eachL pAng (s.drop (k + 1)) = R by omega)
              clear hA hp
              go_wp2
              go_roundw
              case rel => exact ⟨k + 1, by go_num, by omega, HR, HB2⟩
              case measure => simp [intOf]; omega
        · have q1 : decide ((k : Int) + 1 < (s.length : Int)) = false := decide_eq_false (by omega)
          have hnil : s.drop (k + 1) = [] := List.drop_of_length_le (by omega)
          rw [each_one pAng x _ (fun _ y' u e => by rw [hnil] at e; cases e)] at hA
          clear hdr h92 hx hnil
          go_wp2_with fail
          refine (ang1 x _).mono ?_
          rintro e w3 ⟨rfl, rfl⟩
          cases hp : pAng x with
          | true =>
            rw [hp, if_pos rfl] at hA
            have HR := Lib.hid hA
            clear hA hp
            go_wp2
            go_ret
            exact ⟨congrArg (fun z => Ending.returned (.int .i64 z)) (by have := HR.out; omega), HB.out⟩
          | false =>
            rw [hp, if_neg (by decide)] at hA
            have HR := Lib.hid (show (k + 1) + eachL pAng (s.drop (k + 1)) = R by omega)
            clear hA hp
            go_wp2
            go_roundw
            case rel => exact ⟨k + 1, by go_num, by omega, HR, HB⟩
            case measure => simp [intOf]; omega
      · have q : (((x.toNat : Nat) : Int) == 92) = false := beq_eq_false_iff_ne.2 (fun e => h92 ((u8_eq x 92 (by omega)).1 e))
        rw [each_one pAng x _ (fun e => absurd e h92)] at hA
        clear hdr h92 hx
        go_wp2_with fail
        refine (ang1 x _).mono ?_
        rintro e w3 ⟨rfl, rfl⟩
        cases hp : pAng x with
        | true =>
          rw [hp, if_pos rfl] at hA
          have HR := Lib.hid hA
          clear hA hp
          go_wp2
          go_ret
          exact ⟨congrArg (fun z => Ending.returned (.int .i64 z)) (by have := HR.out; omega), HB.out⟩
        | false =>
          rw [hp, if_neg (by decide)] at hA
          have HR := Lib.hid (show (k + 1) + eachL pAng (s.drop (k + 1)) = R by omega)
          clear hA hp
          go_wp2
          go_roundw
          case rel => exact ⟨k + 1, by go_num, by omega, HR, HB⟩
          case measure => simp [intOf]; omega
    · have hnil : s.drop k = [] := List.drop_of_length_le (by omega)
      have HR := Lib.hid (show s.length = R by have := HA.out; rw [hnil] at this; simp [eachL] at this; omega)
      clear HA hnil
      go_wp2
      go_ret
      exact ⟨congrArg (fun z => Ending.returned (.int .i64 z)) (by have := HR.out; omega), HB.out⟩
end Go.Proofs.YtjobchgncdgfaaaGreatDoor.PA

namespace Go.Proofs.YtjobchgncdgfaaaGreatDoor.PA
open Go.RowKit Go.Proofs.YtjobchgncdgfaaaGreatDoor.Pl Go.Proofs.YtjobchgncdgfaaaGreatDoor.Pure Go.Proofs.YtjobchgncdgfaaaGreatDoorW.PrintWords Go.Proofs.YtjobchgncdgfaaaGreatDoorW.PrintLast Go.Proofs.YtjobchgncdgfaaaGreatDoorW.PrintMore
set_option linter.unusedVariables false

/-- The title's end. -/
def pTit (en x : UInt8) : Bool := decide (x = en) || (decide (x = 40) && decide (en = 41))
theorem tit1 (x en : UInt8) (b : Nat) (w : World) (hc : w.cell? ⟨b, 0, none⟩ = some (.int .u8 (en.toNat : Int))) : Calls Tryz.prog 30 #[.int .u8 (x.toNat : Int), .pointer (some ⟨b, 0, none⟩)] w fun e w' => e = .returned (.bool (pTit en x)) ∧ w = w' := by
  have e0 : ((x.toNat : Int) = (en.toNat : Int)) ↔ x = en := ⟨fun h => UInt8.toNat_inj.1 (by omega), fun h => by rw [h]⟩
  have e1 : ((x.toNat : Int) = 40) ↔ x = 40 := u8_eq _ 40 (by omega)
  have e2 : ((en.toNat : Int) = 41) ↔ en = 41 := u8_eq _ 41 (by omega)
  by_cases h0 : x = en
  · have HD := Lib.hid (show pTit en x = true by unfold pTit; rw [decide_eq_true h0]; rfl)
    have q0 : ((x.toNat : Int) == (en.toNat : Int)) = true := beq_iff_eq.2 (e0.2 h0)
    clear h0
    clear e0 e1 e2
    go_enter Tryz.func30, Tryz.ntmps30
    go_wp2
    go_ret
    exact ⟨congrArg (fun z => Ending.returned (.bool z)) HD.out.symm, rfl⟩
  · have q0 : ((x.toNat : Int) == (en.toNat : Int)) = false := beq_eq_false_iff_ne.2 (fun e => h0 (e0.1 e))
    by_cases h1 : x = 40
    · have q1 : ((x.toNat : Int) == 40) = true := beq_iff_eq.2 (e1.2 h1)
      by_cases h2 : en = 41
      · have HD := Lib.hid (show pTit en x = true by unfold pTit; rw [decide_eq_true h1, decide_eq_true h2, Bool.and_self, Bool.or_true])
        have q2 : ((en.toNat : Int) == 41) = true := beq_iff_eq.2 (e2.2 h2)
        clear h0 h1 h2
        clear e0 e1 e2
        go_enter Tryz.func30, Tryz.ntmps30
        go_wp2
        go_ret
        exact ⟨congrArg (fun z => Ending.returned (.bool z)) HD.out.symm, rfl⟩
      · have HD := Lib.hid (show pTit en x = false by unfold pTit; rw [decide_eq_false h0, decide_eq_false h2, Bool.and_false]; rfl)
        have q2 : ((en.toNat : Int) == 41) = false := beq_eq_false_iff_ne.2 (fun e => h2 (e2.1 e))
        clear h0 h1 h2
        clear e0 e1 e2
        go_enter Tryz.func30, Tryz.ntmps30
        go_wp2
        go_ret
        exact ⟨congrArg (fun z => Ending.returned (.bool z)) HD.out.symm, rfl⟩
    · have HD := Lib.hid (show pTit en x = false by unfold pTit; rw [decide_eq_false h0, decide_eq_false h1]; rfl)
      have q1 : ((x.toNat : Int) == 40) = false := beq_eq_false_iff_ne.2 (fun e => h1 (e1.1 e))
      clear h0 h1
      clear e0 e1 e2
      go_enter Tryz.func30, Tryz.ntmps30
      go_wp2
      go_ret
      exact ⟨congrArg (fun z => Ending.returned (.bool z)) HD.out.symm, rfl⟩
set_option maxHeartbeats 4000000 in
set_option maxRecDepth 100000 in
theorem each_tit (s : List UInt8) (hs : s.length ≤ 1099511627776) (f : Nat) (hf : f ≤ s.length) (b : Nat) (en : UInt8) (w : World) (hbx : b < w.heap.size) (hcx : w.cell? ⟨b, 0, none⟩ = some (.int .u8 (en.toNat : Int))) : Calls Tryz.prog 21 #[.string (B s), .int .i64 f, .func (.func 30) #[] #[.pointer (some ⟨b, 0, none⟩)]] w fun e w' => e = .returned (.int .i64 ((f + eachL (pTit en) (s.drop f) : Nat) : Int)) ∧ Below w.heap.size w w' := by
  have hsz : (B s).size = s.length := B_size s
  obtain ⟨R, hR⟩ : ∃ R, f + eachL (pTit en) (s.drop f) = R := ⟨_, rfl⟩
  rw [hR]
  go_enter Tryz.func21, Tryz.ntmps21
  go_wp2
  go_loopw [7] (fun vi wr => ∃ k : Nat, vi = .int .i64 k ∧ k ≤ s.length ∧ Hid (k + eachL (pTit en) (s.drop k) = R) ∧ Hid (Below w.heap.size w wr))
    (fun vi _ => s.length - (intOf vi).toNat)
  case atStart => exact ⟨f, rfl, hf, hR, Below.refl _ _⟩
  case round =>
    obtain ⟨k, rfl, hk, HA, HB⟩ := hrel
    by_cases hkn : k < s.length
    · have hks : k < (B s).size := by omega
      have hi : (B s)[k]'hks = s[k] := List.getElem_toArray hkn
      obtain ⟨x, hx⟩ : ∃ x, s[k] = x := ⟨_, rfl⟩
      have hdr : s.drop k = x :: s.drop (k + 1) := by rw [← hx]; exact List.drop_eq_getElem_cons hkn
      rw [hx] at hi
      have hA := HA.out
      rw [hdr] at hA
      have hsz2 := HB.out.size
      by_cases h92 : x = 92
      · have q : (((x.toNat : Nat) : Int) == 92) = true := by rw [h92]; rfl
        by_cases hk1 : k + 1 < s.length
        · have hks1 : k + 1 < (B s).size := by omega
          have hi1 : (B s)[k + 1]'hks1 = s[k + 1] := List.getElem_toArray hk1
          have q1 : decide ((k : Int) + 1 < (s.length : Int)) = true := decide_eq_true (by omega)
          obtain ⟨y, hy⟩ : ∃ y, s[k + 1] = y := ⟨_, rfl⟩
          have hdr2 : s.drop (k + 1) = y :: s.drop (k + 2) := by rw [← hy]; exact List.drop_eq_getElem_cons hk1
          rw [hy] at hi1
          rw [hdr2] at hA
          have HS := Lib.hid (sign_any y wr)
          cases hsg : sgn y with
          | true =>
            rw [each_esc (pTit en) x y _ h92 hsg] at hA
            have HR := Lib.hid (show (k + 2) + eachL (pTit en) (s.drop (k + 2)) = R by omega)
            clear hA hdr hdr2 h92 hx hy
            go_wp2_with fail
            refine HS.out.mono ?_
            rintro e w2 ⟨rfl, hb2⟩
            rw [hsg]
            have HB2 := Lib.hid (HB.out.trans (hb2.mono hsz2))
            clear hb2 HS hsg HB
            go_wp2
            go_roundw
            case rel => exact ⟨k + 2, by go_num, by omega, HR, HB2⟩
            case measure => simp [intOf]; omega
          | false =>
            rw [each_one (pTit en) x _ (fun _ y' u e => by cases e; exact hsg), ← hdr2] at hA
            clear hdr hdr2 h92 hx hy
            go_wp2_with fail
            refine HS.out.mono ?_
            rintro e w2 ⟨rfl, hb2⟩
            rw [hsg]
            have HB2 := Lib.hid (HB.out.trans (hb2.mono hsz2))
            clear hb2 HS hsg HB
            go_wp2_with fail
            refine (tit1 x en b _ ((HB2.out.cell (p := ⟨b, 0, none⟩) hbx).trans hcx)).mono ?_
            rintro e w3 ⟨rfl, rfl⟩
            cases hp : (pTit en) x with
            | true =>
              rw [hp, if_pos rfl] at hA
              have HR := Lib.hid hA
              clear hA hp
              go_wp2
              go_ret
              exact ⟨congrArg (fun z => Ending.returned (.int .i64 z)) (by have := HR.out; omega), HB2.out⟩
            | false =>
              rw [hp, if_neg (by decide)] at hA
              have HR := Lib.hid (show (k + 1) + eachL (pTit en) (s.drop (k + 1)) = R by omega)
              clear hA hp
              go_wp2
              go_roundw
              case rel => exact ⟨k + 1, by go_num, by omega, HR, HB2⟩
              case measure => simp [intOf]; omega
        · have q1 : decide ((k : Int) + 1 < (s.length : Int)) = false := decide_eq_false (by omega)
          have hnil : s.drop (k + 1) = [] := List.drop_of_length_le (by omega)
          rw [each_one (pTit en) x _ (fun _ y' u e => by rw [hnil] at e; cases e)] at hA
          clear hdr h92 hx hnil
          go_wp2_with fail
          refine (tit1 x en b _ ((HB.out.cell (p := ⟨b, 0, none⟩) hbx).trans hcx)).mono ?_
          rintro e w3 ⟨rfl, rfl⟩
          cases hp : (pTit en) x with
          | true =>
            rw [hp, if_pos rfl] at hA
            have HR := Lib.hid hA
            clear hA hp
            go_wp2
            go_ret
            exact ⟨congrArg (fun z => Ending.returned (.int .i64 z)) (by have := HR.out; omega), HB.out⟩
          | false =>
            rw [hp, if_neg (by decide)] at hA
            have HR := Lib.hid (show (k + 1) + eachL (pTit en) (s.drop (k + 1)) = R by omega)
            clear hA hp
            go_wp2
            go_roundw
            case rel => exact ⟨k + 1, by go_num, by omega, HR, HB⟩
            case measure => simp [intOf]; omega
      · have q : (((x.toNat : Nat) : Int) == 92) = false := beq_eq_false_iff_ne.2 (fun e => h92 ((u8_eq x 92 (by omega)).1 e))
        rw [each_one (pTit en) x _ (fun e => absurd e h92)] at hA
        clear hdr h92 hx
        go_wp2_with fail
        refine (tit1 x en b _ ((HB.out.cell (p := ⟨b, 0, none⟩) hbx).trans hcx)).mono ?_
        rintro e w3 ⟨rfl, rfl⟩
        cases hp : (pTit en) x with
        | true =>
          rw [hp, if_pos rfl] at hA
          have HR := Lib.hid hA
          clear hA hp
          go_wp2
          go_ret
          exact ⟨congrArg (fun z => Ending.returned (.int .i64 z)) (by have := HR.out; omega), HB.out⟩
        | false =>
          rw [hp, if_neg (by decide)] at hA
          have HR := Lib.hid (show (k + 1) + eachL (pTit en) (s.drop (k + 1)) = R by omega)
          clear hA hp
          go_wp2
          go_roundw
          case rel => exact ⟨k + 1, by go_num, by omega, HR, HB⟩
          case measure => simp [intOf]; omega
    · have hnil : s.drop k = [] := List.drop_of_length_le (by omega)
      have HR := Lib.hid (show s.length = R by have := HA.out; rw [hnil] at this; simp [eachL] at this; omega)
      clear HA hnil
      go_wp2
      go_ret
      exact ⟨congrArg (fun z => Ending.returned (.int .i64 z)) (by have := HR.out; omega), HB.out⟩
end Go.Proofs.YtjobchgncdgfaaaGreatDoor.PA

namespace Go.Proofs.YtjobchgncdgfaaaGreatDoor.PA
open Go.RowKit Go.Proofs.YtjobchgncdgfaaaGreatDoor.Pl Go.Proofs.YtjobchgncdgfaaaGreatDoor.Pure Go.Proofs.YtjobchgncdgfaaaGreatDoorW.PrintWords Go.Proofs.YtjobchgncdgfaaaGreatDoorW.PrintLast Go.Proofs.YtjobchgncdgfaaaGreatDoorW.PrintMore
set_option linter.unusedVariables false

/-- Does an address end at a byte? -/
def dstp (o : Nat) (x : UInt8) : Bool := decide (x.toNat ≤ 32) || (decide (x = 127) || (decide (x = 41) && decide (o = 0)))
/-- How many are open behind a byte. -/
def dsto (o : Nat) (x : UInt8) : Nat := if x = 41 then o - 1 else if x = 40 then o + 1 else o
/-- Were they too deep? -/
def dstd (o : Nat) (d : Bool) (x : UInt8) : Bool := if x = 40 then d || decide (32 < o + 1) else d
/-- How far an address goes, how many are open there, and whether they were too deep. -/
def dstL : List UInt8 → Nat → Bool → Nat × Nat × Bool
  | [], o, d => (0, o, d)
  | [x], o, d => if dstp o x = true then (0, o, d) else (1, dsto o x, dstd o d x)
  | x :: y :: t, o, d => if x = 92 ∧ sgn y = true then ((dstL t o d).1 + 2, (dstL t o d).2) else if dstp o x = true then (0, o, d) else ((dstL (y :: t) (dsto o x) (dstd o d x)).1 + 1, (dstL (y :: t) (dsto o x) (dstd o d x)).2)
theorem dst_esc (x y : UInt8) (t : List UInt8) (o : Nat) (d : Bool) (h : x = 92) (h2 : sgn y = true) : dstL (x :: y :: t) o d = ((dstL t o d).1 + 2, (dstL t o d).2) := by rw [dstL, if_pos ⟨h, h2⟩]
theorem dst_one (x : UInt8) (t : List UInt8) (o : Nat) (d : Bool) (h : x = 92 → ∀ y u, t = y :: u → sgn y = false) :
    dstL (x :: t) o d = if dstp o x = true then (0, o, d) else ((dstL t (dsto o x) (dstd o d x)).1 + 1, (dstL t (dsto o x) (dstd o d x)).2) := by
  cases t with
  | nil => rfl
  | cons y u =>
    rw [dstL, if_neg]
    rintro ⟨h1, h2⟩
    rw [h h1 y u rfl] at h2
    cases h2
/-- Two boxes. -/
def Box2 (b : Nat) (o : Nat) (d : Bool) (W : World) : Prop :=
  W.heap[b]? = some (.cells #[.int .i64 (o : Int)] 3 (0, 0)) ∧ W.heap[b + 1]? = some (.cells #[.bool d] 4 (0, 0))
theorem two_other {w : World} {b k : Nat} {u : Value} (h : k ≠ b) : (w.setCell ⟨b, 0, none⟩ u).heap[k]? = w.heap[k]? := Below.heap_setCell _ _ _ _ h
theorem box2_o {b o : Nat} {d : Bool} {W : World} (v : Nat) (h : Box2 b o d W) : Box2 b v d (W.setCell ⟨b, 0, none⟩ (.int .i64 (v : Int))) :=
  ⟨one_setCell h.1, (two_other (by omega)).trans h.2⟩
theorem box2_d {b o : Nat} {d : Bool} {W : World} (v : Bool) (h : Box2 b o d W) : Box2 b o v (W.setCell ⟨b + 1, 0, none⟩ (.bool v)) :=
  ⟨(two_other (by omega)).trans h.1, one_setCell h.2⟩
theorem box2_lt {b o : Nat} {d : Bool} {W : World} (h : Box2 b o d W) : b + 1 < W.heap.size := by
  rcases Nat.lt_or_ge (b + 1) W.heap.size with h1 | h1
  · exact h1
  · have := h.2
    rw [Array.getElem?_eq_none h1] at this
    cases this
theorem box2_below {b o : Nat} {d : Bool} {W W' : World} (h : Box2 b o d W) (hb : Below W.heap.size W W') : Box2 b o d W' := by
  have hl := box2_lt h
  exact ⟨(hb.block b (by omega)).trans h.1, (hb.block (b + 1) hl).trans h.2⟩
theorem dst1_stop (x : UInt8) (o : Nat) (d : Bool) (b : Nat) (W : World) (h : Box2 b o d W) (hp : dstp o x = true) (ho : o ≤ 1099511627776) :
    Calls Tryz.prog 25 #[.int .u8 (x.toNat : Int), .pointer (some ⟨b, 0, none⟩), .pointer (some ⟨b + 1, 0, none⟩)] W fun e w' => e = .returned (.bool true) ∧ w' = W := by
  have c1 := cell_of_one h.1
  have e1 : ((x.toNat : Int) = 127) ↔ x = 127 := u8_eq _ 127 (by omega)
  have e2 : ((x.toNat : Int) = 41) ↔ x = 41 := u8_eq _ 41 (by omega)
  by_cases h0 : x.toNat ≤ 32
  · have q0 : decide ((x.toNat : Int) ≤ 32) = true := decide_eq_true (by omega)
    clear hp h e1 e2 h0
    go_enter Tryz.func25, Tryz.ntmps25
    go_wp2
    go_ret
    exact ⟨rfl, rfl⟩
  · have q0 : decide ((x.toNat : Int) ≤ 32) = false := decide_eq_false (by omega)
    by_cases h1 : x = 127
    · have q1 : ((x.toNat : Int) == 127) = true := beq_iff_eq.2 (e1.2 h1)
      clear hp h e1 e2 h0 h1
      go_enter Tryz.func25, Tryz.ntmps25
      go_wp2
      go_ret
      exact ⟨rfl, rfl⟩
    · have q1 : ((x.toNat : Int) == 127) = false := beq_eq_false_iff_ne.2 (fun e => h1 (e1.1 e))
      unfold dstp at hp
      rw [decide_eq_false h0, decide_eq_false h1, Bool.false_or, Bool.false_or, Bool.and_eq_true, decide_eq_true_eq, decide_eq_true_eq] at hp
      obtain ⟨h2, rfl⟩ := hp
      have q2 : ((x.toNat : Int) == 41) = true := beq_iff_eq.2 (e2.2 h2)
      have q3 : (((0 : Nat) : Int) == 0) = true := rfl
      clear h e1 e2 h0 h1 h2
      go_enter Tryz.func25, Tryz.ntmps25
      go_wp2
      go_ret
      exact ⟨rfl, rfl⟩
set_option maxHeartbeats 1000000 in
theorem dst1_go (x : UInt8) (o : Nat) (d : Bool) (b : Nat) (W : World) (h : Box2 b o d W) (hp : dstp o x = false) (ho : o ≤ 1099511627776) :
    Calls Tryz.prog 25 #[.int .u8 (x.toNat : Int), .pointer (some ⟨b, 0, none⟩), .pointer (some ⟨b + 1, 0, none⟩)] W
      fun e w' => e = .returned (.bool false) ∧ Box2 b (dsto o x) (dstd o d x) w' ∧ Below b W w' := by
  have HX := Aside0.mk h
  have c1 := cell_of_one h.1
  have f1 := free_of_one h.1
  have e1 : ((x.toNat : Int) = 127) ↔ x = 127 := u8_eq _ 127 (by omega)
  have e2 : ((x.toNat : Int) = 41) ↔ x = 41 := u8_eq _ 41 (by omega)
  have e3 : ((x.toNat : Int) = 40) ↔ x = 40 := u8_eq _ 40 (by omega)
  unfold dstp at hp
  simp only [Bool.or_eq_false_iff, Bool.and_eq_false_iff, decide_eq_false_iff_not] at hp
  obtain ⟨h0, h1, h4⟩ := hp
  have q0 : decide ((x.toNat : Int) ≤ 32) = false := decide_eq_false (by omega)
  have q1 : ((x.toNat : Int) == 127) = false := beq_eq_false_iff_ne.2 (fun e => h1 (e1.1 e))
  by_cases h2 : x = 41
  · have ho0 : o ≠ 0 := by rcases h4 with h4 | h4; exact absurd h2 h4; exact h4
    have q2 : ((x.toNat : Int) == 41) = true := beq_iff_eq.2 (e2.2 h2)
    have q3 : ((o : Int) == 0) = false := beq_eq_false_iff_ne.2 (by omega)
    have HO := Aside0.mk (show dsto o x = o - 1 ∧ dstd o d x = d ∧ (o : Int) - 1 = ((o - 1 : Nat) : Int) by subst h2; exact ⟨rfl, rfl, by omega⟩)
    clear h e1 e2 e3 h0 h1 h2 h4
    go_enter Tryz.func25, Tryz.ntmps25
    go_wp2
    go_ret
    rw [HO.out.1, HO.out.2.1, HO.out.2.2]
    exact ⟨rfl, box2_o _ HX.out, (Below.refl b W).setCell (p := ⟨b, 0, none⟩) (Nat.le_refl _) _⟩
  · have q2 : ((x.toNat : Int) == 41) = false := beq_eq_false_iff_ne.2 (fun e => h2 (e2.1 e))
    by_cases h3 : x = 40
    · have q4 : ((x.toNat : Int) == 40) = true := beq_iff_eq.2 (e3.2 h3)
      have HO := Aside0.mk (show dsto o x = o + 1 ∧ dstd o d x = (d || decide (32 < o + 1)) by subst h3; exact ⟨rfl, rfl⟩)
      have B1 := Aside0.mk (box2_o (o + 1) h)
      have c2 := cell_of_one B1.out.2
      have f2 := free_of_one B1.out.2
      have c3 := cell_of_one B1.out.1
      rw [show ((o + 1 : Nat) : Int) = (o : Int) + 1 from rfl] at c2 f2 c3
      clear h e1 e2 e3 h0 h1 h2 h4 h3
      cases d with
      | true =>
        go_enter Tryz.func25, Tryz.ntmps25
        go_wp2
        go_ret
        rw [HO.out.1, HO.out.2]
        exact ⟨rfl, box2_d true (box2_o (o + 1) HX.out), ((Below.refl b W).setCell (p := ⟨b, 0, none⟩) (Nat.le_refl _) _).setCell (p := ⟨b + 1, 0, none⟩) (Nat.le_succ _) _⟩
      | false =>
        have q5 : decide ((32 : Int) < (o : Int) + 1) = decide (32 < o + 1) := by
          by_cases hq : 32 < o + 1
          · rw [decide_eq_true hq]; exact decide_eq_true (by omega)
          · rw [decide_eq_false hq]; exact decide_eq_false (by omega)
        go_enter Tryz.func25, Tryz.ntmps25
        go_wp2
        go_ret
        rw [HO.out.1, HO.out.2]
        exact ⟨rfl, box2_d _ (box2_o (o + 1) HX.out), ((Below.refl b W).setCell (p := ⟨b, 0, none⟩) (Nat.le_refl _) _).setCell (p := ⟨b + 1, 0, none⟩) (Nat.le_succ _) _⟩
    · have q4 : ((x.toNat : Int) == 40) = false := beq_eq_false_iff_ne.2 (fun e => h3 (e3.1 e))
      have HO := Aside0.mk (show dsto o x = o ∧ dstd o d x = d by unfold dsto dstd; rw [if_neg h2, if_neg h3, if_neg h3]; exact ⟨rfl, rfl⟩)
      clear h e1 e2 e3 h0 h1 h2 h4 h3
      go_enter Tryz.func25, Tryz.ntmps25
      go_wp2
      go_ret
      rw [HO.out.1, HO.out.2]
      exact ⟨rfl, HX.out, Below.refl _ _⟩
theorem dsto_le (o : Nat) (x : UInt8) (k : Nat) (h : o ≤ k) : dsto o x ≤ k + 1 := by
  unfold dsto
  split
  · omega
  · split <;> omega
set_option maxHeartbeats 4000000 in
set_option maxRecDepth 100000 in
theorem each_dst (s : List UInt8) (hs : s.length ≤ 1099511627776) (b : Nat) (w : World) (hbx : Box2 b 0 false w) :
    Calls Tryz.prog 21 #[.string (B s), .int .i64 0, .func (.func 25) #[] #[.pointer (some ⟨b, 0, none⟩), .pointer (some ⟨b + 1, 0, none⟩)]] w
      fun e w' => e = .returned (.int .i64 (((dstL s 0 false).1 : Nat) : Int)) ∧ Box2 b (dstL s 0 false).2.1 (dstL s 0 false).2.2 w' ∧ Below b w w' := by
  have hsz : (B s).size = s.length := B_size s
  obtain ⟨R, hR⟩ : ∃ R, dstL s 0 false = R := ⟨_, rfl⟩
  rw [hR]
  have HX0 := Lib.hid hbx
  clear hbx
  go_enter Tryz.func21, Tryz.ntmps21
  go_wp2
  go_loopw [7] (fun vi wr => ∃ (k o : Nat) (d : Bool), vi = .int .i64 k ∧ k ≤ s.length ∧ Hid (o ≤ k) ∧ Hid ((k + (dstL (s.drop k) o d).1, (dstL (s.drop k) o d).2) = R) ∧ Hid (Box2 b o d wr) ∧ Hid (Below b w wr))
    (fun vi _ => s.length - (intOf vi).toNat)
  case atStart => exact ⟨0, 0, false, rfl, by omega, Lib.hid (Nat.le_refl _), Lib.hid (by rw [List.drop_zero, hR]; simp), HX0, Lib.hid (Below.refl _ _)⟩
  case round =>
    obtain ⟨k, o, d, rfl, hk, HO, HA, HX, HB⟩ := hrel
    have ho := HO.out
    by_cases hkn : k < s.length
    · have hks : k < (B s).size := by omega
      have hi : (B s)[k]'hks = s[k] := List.getElem_toArray hkn
      obtain ⟨x, hx⟩ : ∃ x, s[k] = x := ⟨_, rfl⟩
      have hdr : s.drop k = x :: s.drop (k + 1) := by rw [← hx]; exact List.drop_eq_getElem_cons hkn
      rw [hx] at hi
      have hA := HA.out
      rw [hdr] at hA
      by_cases h92 : x = 92
      · have q : (((x.toNat : Nat) : Int) == 92) = true := by rw [h92]; rfl
        by_cases hk1 : k + 1 < s.length
        · have hks1 : k + 1 < (B s).size := by omega
          have hi1 : (B s)[k + 1]'hks1 = s[k + 1] := List.getElem_toArray hk1
          have q1 : decide ((k : Int) + 1 < (s.length : Int)) = true := decide_eq_true (by omega)
          obtain ⟨y, hy⟩ : ∃ y, s[k + 1] = y := ⟨_, rfl⟩
          have hdr2 : s.drop (k + 1) = y :: s.drop (k + 2) := by rw [← hy]; exact List.drop_eq_getElem_cons hk1
          rw [hy] at hi1
          rw [hdr2] at hA
          have HS := Lib.hid (sign_any y wr)
          have hlt := box2_lt HX.out
          cases hsg : sgn y with
          | true =>
            rw [dst_esc x y _ o d h92 hsg] at hA
            have HR := Lib.hid (show ((k + 2) + (dstL (s.drop (k + 2)) o d).1, (dstL (s.drop (k + 2)) o d).2) = R by rw [← hA]; exact Prod.ext (by show _ = k + (_ + 2); omega) rfl)
            clear hA hdr hdr2 h92 hx hy
            go_wp2_with fail
            refine HS.out.mono ?_
            rintro e w2 ⟨rfl, hb2⟩
            rw [hsg]
            have HB2 := Lib.hid (HB.out.trans (hb2.mono (by omega)))
            have HX2 := Lib.hid (box2_below HX.out hb2)
            have HO2 := Lib.hid (show o ≤ k + 2 by omega)
            clear hb2 HS hsg HB hlt
            go_wp2
            go_roundw
            case rel => exact ⟨k + 2, o, d, by go_num, by omega, HO2, HR, HX2, HB2⟩
            case measure => simp [intOf]; omega
          | false =>
            rw [dst_one x _ o d (fun _ y' u e => by cases e; exact hsg), ← hdr2] at hA
            clear hdr hdr2 h92 hx hy
            go_wp2_with fail
            refine HS.out.mono ?_
            rintro e w2 ⟨rfl, hb2⟩
            rw [hsg]
            have HB2 := Lib.hid (HB.out.trans (hb2.mono (by omega)))
            have HX2 := Lib.hid (box2_below HX.out hb2)
            clear hb2 HS hsg HB hlt
            cases hp : dstp o x with
            | true =>
              rw [hp, if_pos rfl] at hA
              have HR := Lib.hid hA
              go_wp2_with fail
              refine (dst1_stop x o d b _ HX2.out hp (by omega)).mono ?_
              rintro e w3 ⟨rfl, rfl⟩
              clear hA hp
              go_wp2
              go_ret
              exact ⟨congrArg (fun z => Ending.returned (.int .i64 z)) (by have := HR.out; rw [← this]; simp), by have := HR.out; rw [← this]; exact HX2.out, HB2.out⟩
            | false =>
              rw [hp, if_neg (by decide)] at hA
              have HR := Lib.hid (show ((k + 1) + (dstL (s.drop (k + 1)) (dsto o x) (dstd o d x)).1, (dstL (s.drop (k + 1)) (dsto o x) (dstd o d x)).2) = R by rw [← hA]; exact Prod.ext (by show _ = k + (_ + 1); omega) rfl)
              go_wp2_with fail
              refine (dst1_go x o d b _ HX2.out hp (by omega)).mono ?_
              rintro e w3 ⟨rfl, hx3, hb3⟩
              have HX3 := Lib.hid hx3
              have HB3 := Lib.hid (HB2.out.trans hb3)
              have HO3 := Lib.hid (dsto_le o x k ho)
              clear hA hp hx3 hb3
              go_wp2
              go_roundw
              case rel => exact ⟨k + 1, dsto o x, dstd o d x, by go_num, by omega, HO3, HR, HX3, HB3⟩
              case measure => simp [intOf]; omega
        · have q1 : decide ((k : Int) + 1 < (s.length : Int)) = false := decide_eq_false (by omega)
          have hnil : s.drop (k + 1) = [] := List.drop_of_length_le (by omega)
          rw [dst_one x _ o d (fun _ y' u e => by rw [hnil] at e; cases e)] at hA
          clear hdr h92 hx hnil
          cases hp : dstp o x with
          | true =>
            rw [hp, if_pos rfl] at hA
            have HR := Lib.hid hA
            go_wp2_with fail
            refine (dst1_stop x o d b _ HX.out hp (by omega)).mono ?_
            rintro e w3 ⟨rfl, rfl⟩
            clear hA hp
            go_wp2
            go_ret
            exact ⟨congrArg (fun z => Ending.returned (.int .i64 z)) (by have := HR.out; rw [← this]; simp), by have := HR.out; rw [← this]; exact HX.out, HB.out⟩
          | false =>
            rw [hp, if_neg (by decide)] at hA
            have HR := Lib.hid (show ((k + 1) + (dstL (s.drop (k + 1)) (dsto o x) (dstd o d x)).1, (dstL (s.drop (k + 1)) (dsto o x) (dstd o d x)).2) = R by rw [← hA]; exact Prod.ext (by show _ = k + (_ + 1); omega) rfl)
            go_wp2_with fail
            refine (dst1_go x o d b _ HX.out hp (by omega)).mono ?_
            rintro e w3 ⟨rfl, hx3, hb3⟩
            have HX3 := Lib.hid hx3
            have HB3 := Lib.hid (HB.out.trans hb3)
            have HO3 := Lib.hid (dsto_le o x k ho)
            clear hA hp hx3 hb3
            go_wp2
            go_roundw
            case rel => exact ⟨k + 1, dsto o x, dstd o d x, by go_num, by omega, HO3, HR, HX3, HB3⟩
            case measure => simp [intOf]; omega
      · have q : (((x.toNat : Nat) : Int) == 92) = false := beq_eq_false_iff_ne.2 (fun e => h92 ((u8_eq x 92 (by omega)).1 e))
        rw [dst_one x _ o d (fun e => absurd e h92)] at hA
        clear hdr h92 hx
        cases hp : dstp o x with
        | true =>
          rw [hp, if_pos rfl] at hA
          have HR := Lib.hid hA
          go_wp2_with fail
          refine (dst1_stop x o d b _ HX.out hp (by omega)).mono ?_
          rintro e w3 ⟨rfl, rfl⟩
          clear hA hp
          go_wp2
          go_ret
          exact ⟨congrArg (fun z => Ending.returned (.int .i64 z)) (by have := HR.out; rw [← this]; simp), by have := HR.out; rw [← this]; exact HX.out, HB.out⟩
        | false =>
          rw [hp, if_neg (by decide)] at hA
          have HR := Lib.hid (show ((k + 1) + (dstL (s.drop (k + 1)) (dsto o x) (dstd o d x)).1, (dstL (s.drop (k + 1)) (dsto o x) (dstd o d x)).2) = R by rw [← hA]; exact Prod.ext (by show _ = k + (_ + 1); omega) rfl)
          go_wp2_with fail
          refine (dst1_go x o d b _ HX.out hp (by omega)).mono ?_
          rintro e w3 ⟨rfl, hx3, hb3⟩
          have HX3 := Lib.hid hx3
          have HB3 := Lib.hid (HB.out.trans hb3)
          have HO3 := Lib.hid (dsto_le o x k ho)
          clear hA hp hx3 hb3
          go_wp2
          go_roundw
          case rel => exact ⟨k + 1, dsto o x, dstd o d x, by go_num, by omega, HO3, HR, HX3, HB3⟩
          case measure => simp [intOf]; omega
    · have hnil : s.drop k = [] := List.drop_of_length_le (by omega)
      have HR := Lib.hid (show (s.length, o, d) = R by have := HA.out; rw [hnil] at this; rw [← this]; exact Prod.ext (by show _ = k + 0; omega) rfl)
      clear HA hnil
      go_wp2
      go_ret
      exact ⟨congrArg (fun z => Ending.returned (.int .i64 z)) (by have := HR.out; rw [← this]), by have := HR.out; rw [← this]; exact HX.out, HB.out⟩
end Go.Proofs.YtjobchgncdgfaaaGreatDoor.PA

namespace Go.Proofs.YtjobchgncdgfaaaGreatDoor.PA
open Go.RowKit Go.Proofs.YtjobchgncdgfaaaGreatDoorW.PrintWords

def strings_TrimLeft.f (a0 a1 : ByteArray) : Option ByteArray := if a0.size ≤ 9223372036854775807 ∧ a1.size ≤ 4294967280 ∧ (a1.data.toList.all fun b => decide (b.toNat < 128)) = true then some ⟨(Lib.trimLeftS a0.data.toList a1.data.toList).toArray⟩ else none
theorem strings_TrimLeft.calls (a0 a1 : ByteArray) (r : ByteArray) (w : World) (h : strings_TrimLeft.f a0 a1 = some r) :
    Calls Tryz.prog 33 #[.string a0, .string a1] w fun e w' => e = .returned (.string r) ∧ Below w.heap.size w w' := by
  unfold strings_TrimLeft.f at h
  split at h
  · rename_i hc
    obtain ⟨h1, h2, h3⟩ := hc
    obtain rfl := Option.some.inj h
    exact Any.strings_TrimLeft_laid Tryz.lays161 (by kernel_rfl) a0 a1 w (by omega) (ascii_of_all h3)
  · cases h
def strings_Trim.f (a0 a1 : ByteArray) : Option ByteArray := if a0.size ≤ 9223372036854775807 ∧ a1.size ≤ 4294967280 ∧ (a1.data.toList.all fun b => decide (b.toNat < 128)) = true then some ⟨(Lib.trimS a0.data.toList a1.data.toList).toArray⟩ else none
theorem strings_Trim.calls (a0 a1 : ByteArray) (r : ByteArray) (w : World) (h : strings_Trim.f a0 a1 = some r) :
    Calls Tryz.prog 44 #[.string a0, .string a1] w fun e w' => e = .returned (.string r) ∧ Below w.heap.size w w' := by
  unfold strings_Trim.f at h
  split at h
  · rename_i hc
    obtain ⟨h1, h2, h3⟩ := hc
    obtain rfl := Option.some.inj h
    exact Any.strings_Trim_laid Tryz.lays160 (by kernel_rfl) a0 a1 w h1 (by omega) (ascii_of_all h3)
  · cases h
end Go.Proofs.YtjobchgncdgfaaaGreatDoor.PA

namespace Go.Proofs.YtjobchgncdgfaaaGreatDoor.Pure
open Go.RowKit Go.Proofs.YtjobchgncdgfaaaGreatDoorW.PrintWords Go.Proofs.YtjobchgncdgfaaaGreatDoorW.PrintMore Go.Proofs.YtjobchgncdgfaaaGreatDoor.Pl Go.Proofs.YtjobchgncdgfaaaGreatDoor.PA

/-- How much white a text begins with. -/
def wht (s : List UInt8) : Nat := s.length - (Lib.trimLeftS s [32, 9, 10]).length
theorem trim_le (s c : List UInt8) : (Lib.trimLeftS s c).length ≤ s.length := by
  unfold Lib.trimLeftS
  exact (List.dropWhile_suffix _).length_le
theorem wht_le (s : List UInt8) : wht s ≤ s.length := Nat.sub_le _ _
theorem wht_int (s : List UInt8) : (s.length : Int) - ((Lib.trimLeftS s [32, 9, 10]).length : Int) = (wht s : Int) := by
  have := trim_le s [32, 9, 10]
  unfold wht
  omega
/-- The label a text begins with, and how long it is. -/
def lab : List UInt8 → List UInt8 × Nat
  | [] => ([], 0)
  | x :: t => if x = 91 then
      match t.drop (eachL pLab t) with
      | [] => ([], 0)
      | y :: _ => if y = 91 ∨ 999 < eachL pLab t ∨ wht (t.take (eachL pLab t)) = eachL pLab t then ([], 0) else (t.take (eachL pLab t), eachL pLab t + 2)
    else ([], 0)
/-- An address in brackets, behind the first one. -/
def ang (t : List UInt8) : List UInt8 × Nat × Bool :=
  match t.drop (eachL pAng t) with
  | [] => ([], 0, false)
  | y :: _ => if y = 62 then (une (t.take (eachL pAng t)), eachL pAng t + 2, true) else ([], 0, false)
/-- The address a text begins with, and how long it is. -/
def dst (s : List UInt8) : List UInt8 × Nat × Bool :=
  if s.head? = some 60 then ang (s.drop 1)
  else if (dstL s 0 false).1 = 0 ∨ 0 < (dstL s 0 false).2.1 ∨ (dstL s 0 false).2.2 = true then ([], 0, false)
  else (une (s.take (dstL s 0 false).1), (dstL s 0 false).1, true)
/-- What a title ends with. -/
def cls : List UInt8 → UInt8
  | [] => 0
  | x :: _ => if x = 34 then x else if x = 39 then x else if x = 40 then 41 else 0
/-- Is a text blank? -/
def blk (s : List UInt8) : Bool := s.all fun x => decide (x = 32) || decide (x = 9)
/-- A text cut at its LF: what has come of this line, what is left. -/
def lf : List UInt8 → List UInt8 → List (List UInt8)
  | cur, [] => [cur]
  | cur, x :: t => if x = 10 then cur :: lf [] t else lf (cur ++ [x]) t
theorem lf_none : ∀ (t cur : List UInt8), (10 : UInt8) ∉ t → lf cur t = [cur ++ t]
  | [], cur, _ => by simp [lf]
  | x :: t, cur, h => by
    rw [List.mem_cons, not_or] at h
    rw [lf, if_neg (fun e => h.1 e.symm), lf_none t _ h.2, List.append_assoc]
    rfl
theorem lf_cut : ∀ (p cur r : List UInt8), (10 : UInt8) ∉ p → lf cur (p ++ 10 :: r) = (cur ++ p) :: lf [] r
  | [], cur, r, _ => by simp [lf]
  | x :: p, cur, r, h => by
    rw [List.mem_cons, not_or] at h
    rw [List.cons_append, lf, if_neg (fun e => h.1 e.symm), lf_cut p _ r h.2, List.append_assoc]
    rfl
theorem lf_pos : ∀ (t cur : List UInt8), lf cur t ≠ []
  | [], _ => by simp [lf]
  | x :: t, cur => by
    rw [lf]
    split
    · simp
    · exact lf_pos t _
theorem ib_first : ∀ (p r : List UInt8) (c : UInt8), c ∉ p → Lib.indexByte (p ++ c :: r) c = p.length
  | [], r, c, _ => by simp [Lib.indexByte]
  | x :: p, r, c, h => by
    rw [List.mem_cons, not_or] at h
    have ih := ib_first p r c h.2
    simp only [List.cons_append, Lib.indexByte]
    rw [if_neg (by simpa using fun e => h.1 e.symm), ih, if_neg (by rw [beq_iff_eq]; omega)]
    simp
theorem mem_split (c : UInt8) : ∀ s : List UInt8, c ∈ s → ∃ p r, s = p ++ c :: r ∧ c ∉ p
  | [], h => by cases h
  | x :: t, h => by
    by_cases hx : x = c
    · exact ⟨[], t, by rw [hx]; rfl, by simp⟩
    · obtain ⟨p, r, e, hp⟩ := mem_split c t (by rcases List.mem_cons.1 h with e | e; exact absurd e.symm hx; exact e)
      exact ⟨x :: p, r, by rw [e]; rfl, by rw [List.mem_cons, not_or]; exact ⟨fun e => hx e.symm, hp⟩⟩
theorem split_lf : ∀ (n : Nat) (s : List UInt8), s.length ≤ n → Lib.splitB ⟨#[10]⟩ 0 (Lib.countB (B s) ⟨#[10]⟩) (B s) = (lf [] s).map B := by
  intro n
  induction n with
  | zero =>
    intro s h
    obtain rfl := List.length_eq_zero_iff.1 (Nat.le_zero.1 h)
    rfl
  | succ n ih =>
    intro s h
    by_cases hm : (10 : UInt8) ∈ s
    · obtain ⟨p, r, rfl, hp⟩ := mem_split 10 s hm
      rw [List.length_append, List.length_cons] at h
      have hc : Lib.countB (B (p ++ 10 :: r)) ⟨#[10]⟩ = Lib.countB (B r) ⟨#[10]⟩ + 1 := by
        show Lib.count (B (p ++ 10 :: r)).data.toList [10] = Lib.count (B r).data.toList [10] + 1
        rw [Lib.count_one, Lib.count_one, B_data, B_data, List.count_append, List.count_eq_zero.2 hp, List.count_cons_self]
        omega
      have hi : Lib.indexB (B (p ++ 10 :: r)) ⟨#[10]⟩ = (p.length : Int) := by
        show Lib.index (B (p ++ 10 :: r)).data.toList [10] = _
        rw [Lib.index_one, B_data, ib_first p r 10 hp]
      have e1 : (B (p ++ 10 :: r)).extract 0 (p.length + 0) = B p := by
        rw [Nat.add_zero, B_to, List.take_left']
        rfl
      have e2 : (B (p ++ 10 :: r)).extract (p.length + 1) (B (p ++ 10 :: r)).size = B r := by
        rw [B_from _ _ _ (B_size _), ← List.drop_drop, List.drop_left' rfl]
        rfl
      rw [lf_cut p [] r hp, List.map_cons, List.nil_append, hc, Lib.splitB, hi, if_neg (by rw [beq_iff_eq]; omega), Int.toNat_natCast, e1]
      congr 1
      rw [← ih r (by omega)]
      exact congrArg _ e2
    · have hc : Lib.countB (B s) ⟨#[10]⟩ = 0 := by
        show Lib.count (B s).data.toList [10] = 0
        rw [Lib.count_one, B_data]
        exact List.count_eq_zero.2 hm
      rw [hc, Lib.splitB_zero, lf_none s [] hm]
      rfl
/-- A text's lines. -/
def lns (s : List UInt8) : List (List UInt8) := lf [] s
theorem split_f (s : List UInt8) (h : s.length ≤ 1048576) : strings_Split.f (B s) ⟨#[10]⟩ = some ((lns s).map B) := by
  unfold strings_Split.f
  rw [if_pos ⟨by rw [B_size]; omega, by decide⟩, split_lf _ s (Nat.le_refl _)]
  rfl
theorem lf_len : ∀ (t cur : List UInt8), (lf cur t).length ≤ t.length + 1
  | [], _ => by simp [lf]
  | x :: t, cur => by
    rw [lf]
    split
    · have := lf_len t []
      simp only [List.length_cons]
      omega
    · have := lf_len t (cur ++ [x])
      simp only [List.length_cons]
      omega
theorem lf_size : ∀ (t cur : List UInt8), ∀ p ∈ lf cur t, p.length ≤ cur.length + t.length
  | [], cur, p, hp => by
    rw [lf, List.mem_singleton] at hp
    rw [hp]
    simp
  | x :: t, cur, p, hp => by
    rw [lf] at hp
    split at hp
    · rcases List.mem_cons.1 hp with rfl | hp
      · simp
      · have := lf_size t [] p hp
        simp at this ⊢
        omega
    · have := lf_size t (cur ++ [x]) p hp
      simp at this ⊢
      omega
theorem blk_snoc (c : List UInt8) (x : UInt8) : blk (c ++ [x]) = (blk c && (decide (x = 32) || decide (x = 9))) := by
  unfold blk
  rw [List.all_append]
  simp
/-- Is one of some lines, other than the last one (and the first one, unless it counts), of blanks alone? -/
def mid : Bool → List (List UInt8) → Bool
  | _, [] => false
  | _, [_] => false
  | b, x :: y :: r => (b && blk x) || mid true (y :: r)
/-- Has a text a line of blanks alone, other than its first and last? -/
def gp : Bool → List UInt8 → Bool
  | _, [] => false
  | b, x :: t => if x = 10 then b || gp true t else gp (b && (decide (x = 32) || decide (x = 9))) t
theorem mid_gp : ∀ (t cur : List UInt8) (b : Bool), mid b (lf cur t) = gp (b && blk cur) t
  | [], cur, b => rfl
  | x :: t, cur, b => by
    rw [lf, gp]
    by_cases h : x = 10
    · rw [if_pos h, if_pos h]
      have ih := mid_gp t [] true
      rw [show (true && blk []) = true from rfl] at ih
      rw [← ih]
      cases hl : lf [] t with
      | nil => exact absurd hl (lf_pos t [])
      | cons y r => rw [mid]
    · rw [if_neg h, if_neg h, mid_gp t _ b, blk_snoc, Bool.and_assoc]
theorem gp_lns (s : List UInt8) : mid true ((lns s).drop 1) = gp false s := by
  have h := mid_gp s [] false
  rw [Bool.false_and] at h
  rw [← h]
  unfold lns
  cases hl : lf [] s with
  | nil => exact absurd hl (lf_pos s [])
  | cons y r =>
    cases r with
    | nil => rfl
    | cons z r => rw [mid, Bool.false_and, Bool.false_or]; rfl
theorem dw_nil (p : UInt8 → Bool) : ∀ l : List UInt8, l.dropWhile p = [] ↔ ∀ x ∈ l, p x = true
  | [] => by simp
  | x :: t => by
    rw [List.dropWhile_cons]
    split
    · rename_i h
      rw [dw_nil p t, List.forall_mem_cons]
      exact ⟨fun e => ⟨h, e⟩, fun e => e.2⟩
    · rename_i h
      exact ⟨fun e => (by cases e), fun e => absurd (e x List.mem_cons_self) h⟩
theorem tw_mem (p : UInt8 → Bool) : ∀ (l : List UInt8) (x : UInt8), x ∈ l.takeWhile p → p x = true
  | [], x, h => by cases h
  | y :: t, x, h => by
    rw [List.takeWhile_cons] at h
    split at h
    · rename_i hy
      rcases List.mem_cons.1 h with rfl | h
      · exact hy
      · exact tw_mem p t x h
    · cases h
theorem trim_nil (p : List UInt8) : (Lib.trimS p [32, 9] = []) ↔ blk p = true := by
  have h : ∀ x : UInt8, ([32, 9] : List UInt8).contains x = (decide (x = 32) || decide (x = 9)) := by
    intro x
    have := (by decide +kernel : ∀ y : Fin 256, ([32, 9] : List UInt8).contains (UInt8.ofNat y.val) = (decide (UInt8.ofNat y.val = 32) || decide (UInt8.ofNat y.val = 9))) ⟨x.toNat, x.toNat_lt⟩
    rwa [show UInt8.ofNat x.toNat = x from UInt8.ofNat_toNat] at this
  have hd : ∀ l : List UInt8, Lib.trimLeftS l [32, 9] = [] ↔ blk l = true := by
    intro l
    unfold Lib.trimLeftS blk
    rw [List.all_eq_true]
    constructor
    · intro e x hx
      have := (dw_nil _ _).1 e x hx
      rw [← h x]
      exact this
    · intro e
      refine (dw_nil _ _).2 (fun x hx => ?_)
      rw [h x]
      exact e x hx
  have hr : blk (Lib.trimRightS p [32, 9]) = true ↔ blk p = true := by
    have e : Lib.trimRightS p [32, 9] = (Lib.trimLeftS p.reverse [32, 9]).reverse := rfl
    rw [e]
    have hrev : ∀ l : List UInt8, blk l.reverse = blk l := fun l => by unfold blk; rw [List.all_reverse]
    rw [hrev]
    constructor
    · intro h1
      rw [← hrev p]
      unfold blk at h1 ⊢
      rw [List.all_eq_true] at h1 ⊢
      intro x hx
      rw [← List.takeWhile_append_dropWhile (p := fun y => ([32, 9] : List UInt8).contains y) (l := p.reverse)] at hx
      rcases List.mem_append.1 hx with hx | hx
      · rw [← h x]
        exact tw_mem _ _ _ hx
      · exact h1 x hx
    · intro h1
      have : Lib.trimLeftS p.reverse [32, 9] = [] := (hd _).2 (by rw [hrev]; exact h1)
      rw [this]
      rfl
  unfold Lib.trimS
  rw [hd, hr]
/-- The title a text begins with, and how long it is. -/
def ttl : List UInt8 → List UInt8 × Nat
  | [] => ([], 0)
  | x :: t => if cls (x :: t) = 0 then ([], 0) else
      match t.drop (eachL (pTit (cls (x :: t))) t) with
      | [] => ([], 0)
      | y :: _ => if y = cls (x :: t) then (if gp false (t.take (eachL (pTit (cls (x :: t))) t)) = true then ([], 0) else (une (t.take (eachL (pTit (cls (x :: t))) t)), eachL (pTit (cls (x :: t))) t + 2)) else ([], 0)
end Go.Proofs.YtjobchgncdgfaaaGreatDoor.Pure

namespace Go.Proofs.YtjobchgncdgfaaaGreatDoor.Pure
open Go.RowKit Go.Proofs.YtjobchgncdgfaaaGreatDoorW.PrintWords Go.Proofs.YtjobchgncdgfaaaGreatDoorW.PrintMore Go.Proofs.YtjobchgncdgfaaaGreatDoor.Pl Go.Proofs.YtjobchgncdgfaaaGreatDoor.PA

theorem lab_cons (x : UInt8) (t : List UInt8) : lab (x :: t) = if x = 91 then
      match t.drop (eachL pLab t) with
      | [] => ([], 0)
      | y :: _ => if y = 91 ∨ 999 < eachL pLab t ∨ wht (t.take (eachL pLab t)) = eachL pLab t then ([], 0) else (t.take (eachL pLab t), eachL pLab t + 2)
    else ([], 0) := rfl
theorem ttl_cons (x : UInt8) (t : List UInt8) : ttl (x :: t) = if cls (x :: t) = 0 then ([], 0) else
      match t.drop (eachL (pTit (cls (x :: t))) t) with
      | [] => ([], 0)
      | y :: _ => if y = cls (x :: t) then (if gp false (t.take (eachL (pTit (cls (x :: t))) t)) = true then ([], 0) else (une (t.take (eachL (pTit (cls (x :: t))) t)), eachL (pTit (cls (x :: t))) t + 2)) else ([], 0) := rfl
theorem cls_cons (x : UInt8) (t : List UInt8) : cls (x :: t) = if x = 34 then x else if x = 39 then x else if x = 40 then 41 else 0 := rfl
theorem sgn_above (y : UInt8) (h : sgn y = true) : 32 < y.toNat ∧ y ≠ 127 := by
  have hh : ∀ z : Fin 256, sgn (UInt8.ofNat z.val) = true → 32 < (UInt8.ofNat z.val).toNat ∧ UInt8.ofNat z.val ≠ 127 := by decide +kernel
  have := hh ⟨y.toNat, y.toNat_lt⟩
  rw [show UInt8.ofNat y.toNat = y from UInt8.ofNat_toNat] at this
  exact this h
theorem dstp_above (o : Nat) (x : UInt8) (h : ¬ dstp o x = true) : 32 < x.toNat ∧ x ≠ 127 := by
  unfold dstp at h
  simp only [Bool.or_eq_true, decide_eq_true_eq, not_or] at h
  exact ⟨by omega, h.2.1⟩
/-- Is a byte white? -/
def wsp (x : UInt8) : Bool := decide (x = 32) || (decide (x = 9) || decide (x = 10))
theorem wsp_eq (x : UInt8) : ([32, 9, 10] : List UInt8).contains x = wsp x := by
  have h : ∀ y : Fin 256, ([32, 9, 10] : List UInt8).contains (UInt8.ofNat y.val) = wsp (UInt8.ofNat y.val) := by decide +kernel
  have := h ⟨x.toNat, x.toNat_lt⟩
  rwa [show UInt8.ofNat x.toNat = x from UInt8.ofNat_toNat] at this
theorem wht_cons (x : UInt8) (t : List UInt8) : wht (x :: t) = if wsp x = true then wht t + 1 else 0 := by
  have h1 := trim_le t [32, 9, 10]
  unfold wht Lib.trimLeftS at *
  rw [List.dropWhile_cons, wsp_eq]
  split
  · simp only [List.length_cons]; omega
  · simp only [List.length_cons]; omega
end Go.Proofs.YtjobchgncdgfaaaGreatDoor.Pure

namespace Go.Proofs.YtjobchgncdgfaaaGreatDoor.PA
open Go.RowKit Go.Proofs.YtjobchgncdgfaaaGreatDoor.Pl Go.Proofs.YtjobchgncdgfaaaGreatDoorW.PrintWords Go.Proofs.YtjobchgncdgfaaaGreatDoorW.PrintLast Go.Proofs.YtjobchgncdgfaaaGreatDoorW.PrintMore
set_option linter.unusedVariables false

noncomputable def rtOps : Array Oper := match Tryz.f71.body with
  | some (.seq _ (.seq (.region _ o _) _)) => o
  | _ => #[]
noncomputable def rtO1 : Oper := (rtOps.toList.drop 183).headD { dst := none, op := .store 0 (.tmp 0) (.tmp 0), type := 0, pos := "", after := #[], guard := none }
noncomputable def rtO2 : Oper := (rtOps.toList.drop 184).headD { dst := none, op := .store 0 (.tmp 0) (.tmp 0), type := 0, pos := "", after := #[], guard := none }
noncomputable def rtParts : Array (Nat × Operand) := match rtO1.op with
  | .buildSlice _ _ p => p
  | _ => #[]
def rtAct : Act := { tmps := #[Value.slice none 0 0] ++ Array.replicate 184 undef, defers := [] }
def rtz : Value := .agg #[.string ByteArray.empty, .int .i32 0]
theorem rt_built : (bldAll Tryz.prog (rtOps.toList.take 183) rtAct).map (fun a => (Instr.fill (fun i => some (i * 2, 2)) ((Array.range (183 * 2)).map (rtz.cells[· % rtz.cells.size]!)) (rtParts.map fun (i, x) => (i, a.eval x)).toList, a.defers, a.tmps.size)) = some (some entCells, [], 185) := by kernel_rfl
theorem rt_ops : rtOps.toList.drop 183 = [rtO1, rtO2] := by kernel_rfl
theorem rt_o1 : rtO1.dst = some 184 ∧ rtO1.guard = none ∧ rtO1.op = .buildSlice 76 183 rtParts := ⟨by kernel_rfl, by kernel_rfl, by kernel_rfl⟩
theorem rt_o2 : rtO2.dst = some 0 ∧ rtO2.guard = none ∧ rtO2.op = .assign (.tmp 184) := ⟨by kernel_rfl, by kernel_rfl, by kernel_rfl⟩
theorem rt_body : Tryz.f71.body = some (.seq (.region 0 #[{ dst := some 0, op := .assign (.const (.slice none 0 0)), type := 76, pos := "ref.go:11", after := #[], guard := none }] false) (.seq (.region 1 rtOps false) .ret)) := by kernel_rfl
theorem rt_desc : Tryz.prog.underlying 76 = some (.slice 79) := by kernel_rfl
theorem rt_info : (Tryz.prog.info? 79).map (fun i => (i.zero, i.size)) = some (some rtz, 2) := by kernel_rfl
def rtS : List S79 := entL.map fun e => ⟨B e.1, (e.2 : Int)⟩
theorem rt_reps {R : S79 → List Value → Prop} (h : ∀ x, R x [.string x.f0, .int .i32 x.f1]) : ∀ l : List (List UInt8 × Nat), Reps R 2 (l.map fun e => (⟨B e.1, (e.2 : Int)⟩ : S79)) (l.flatMap fun e => [Value.string (B e.1), Value.int .i32 (e.2 : Int)])
  | [] => ⟨by simp, fun j p hj => by simp at hj⟩
  | e :: l => by
    have ih := rt_reps h l
    refine ⟨by have h1 := ih.1; rw [List.length_map] at h1; simp only [List.flatMap_cons, List.length_append, List.map_cons, List.length_cons, List.length_nil, List.length_map, h1]; omega, fun j p hj => ?_⟩
    cases j with
    | zero =>
      simp at hj
      subst hj
      simpa using h ⟨B e.1, (e.2 : Int)⟩
    | succ j =>
      have h2 := ih.2 j p (by simpa using hj)
      rw [show (j + 1) * 2 = j * 2 + 2 by omega]
      simpa using h2
set_option maxRecDepth 100000 in
set_option maxHeartbeats 4000000 in
theorem rt_walk (w : World) : Calls Tryz.prog 71 #[] w fun e w' => ∃ v0_, e = .returned v0_ ∧ Kd.R k79 79 w' w.heap.size (fun _ => True) v0_ rtS ∧ Below w.heap.size w w' := by
  refine calls_of_wp Tryz.func71 rt_body ?_
  have htm : (#[] : Array Value) ++ Array.replicate ((Tryz.f71).ntmps - (#[] : Array Value).size) undef = Array.replicate 185 undef := by kernel_rfl
  rw [htm]
  have e1 : ({ tmps := (Array.replicate 185 undef).setIfInBounds 0 (.slice none 0 0), defers := [] } : Act) = rtAct := by kernel_rfl
  refine wp_seq (wp_region_list (wpList_plain rfl fun K hK => ?_))
  generalize hA : (Array.replicate 185 undef : Array Value) = A at e1 ⊢
  go_simp
  refine hK _ _ (wpList_nil ?_)
  clear hK K
  refine wp_seq (wp_region_list ?_)
  have hsplit : rtOps.toList = rtOps.toList.take 183 ++ [rtO1, rtO2] := by rw [← rt_ops, List.take_append_drop]
  have hb := rt_built
  cases hq : bldAll Tryz.prog (rtOps.toList.take 183) rtAct with
  | none => rw [hq] at hb; cases hb
  | some a' =>
    rw [hq] at hb
    simp only [Option.map_some, Option.some.injEq, Prod.mk.injEq] at hb
    obtain ⟨h1, h2, h3⟩ := hb
    rw [hsplit]
    refine wpList_bldAll _ _ _ _ hq ?_
    cases hi : Tryz.prog.info? 79 with
    | none => have h := rt_info; rw [hi] at h; cases h
    | some ie =>
      have hri := rt_info
      rw [hi] at hri
      simp only [Option.map_some, Option.some.injEq, Prod.mk.injEq] at hri
      refine wpList_buildSlice rt_o1.2.1 _ _ 183 rtParts rt_o1.2.2 entCells ie rtz rt_desc hi hri.1 (by rw [hri.2]; decide) (by rw [hri.2]; decide) (by rw [hri.2]; exact h1) ?_
      rw [rt_o1.1]
      refine wpList_plain rt_o2.2.1 fun K hK => ?_
      unfold Oper.wp execOp
      simp only [rt_o2.2.2]
      have e2 : (a'.put (some 184) (.slice (some ⟨w.heap.size, 0, none⟩) 183 183)).eval (.tmp 184) = .slice (some ⟨w.heap.size, 0, none⟩) 183 183 := by
        simp [Act.eval, Act.put, h3]
      rw [e2]
      simp only [Oper.upon, Sem.run_pure, rt_o2.1]
      refine hK _ _ (wpList_nil (wp_ret ?_))
      have hln : rtS.length = 183 := by unfold rtS; rw [List.length_map, entL_len]
      have hR : Kd.R k79 79 (w.alloc (Obj.cells entCells 79)) w.heap.size (fun _ => True) (.slice (some ⟨w.heap.size, 0, none⟩) 183 183) rtS := by
        refine ⟨fun _ _ => trivial, entL.flatMap fun e => [Value.string (B e.1), Value.int .i32 (e.2 : Int)], ?_, rt_reps (fun x => k79_mkM _ _ _ x) entL⟩
        have h9 := World.ownsRow_lit (base := w.heap.size) (e := 79) (size := 2) w entCells 183 (Nat.le_refl _) (by unfold maxLen; omega) tab_len
        rw [hln]
        exact (by simpa [entCells] using h9 : World.ownsRow _ w.heap.size 79 2 _ 183 (entL.flatMap fun e => [Value.string (B e.1), Value.int .i32 (e.2 : Int)]))
      refine bodyPost_ret (v := .slice (some ⟨w.heap.size, 0, none⟩) 183 183) ?_ ?_ ⟨_, rfl, hR, (Below.refl _ w).alloc (Nat.le_refl _) _⟩
      · rw [results_tmp (t := 0) rfl]
        simp [Act.put, h3]
      · simpa [Act.put] using h2
def incipitref04_Table.f : Option (List S79) := some rtS
theorem incipitref04_Table.calls (r : List S79) (w : World) (h : incipitref04_Table.f = some r) :
    Calls Tryz.prog 71 #[] w fun e w' => ∃ v0_, e = .returned v0_ ∧ Kd.R k79 79 w' w.heap.size (fun _ => True) v0_ r ∧ Below w.heap.size w w' := by
  obtain rfl := Option.some.inj h
  exact rt_walk w
end Go.Proofs.YtjobchgncdgfaaaGreatDoor.PA

namespace Go.Proofs.YtjobchgncdgfaaaGreatDoor.PA
open Go.RowKit Go.Proofs.YtjobchgncdgfaaaGreatDoor.Pl Go.Proofs.YtjobchgncdgfaaaGreatDoorW.PrintWords Go.Proofs.YtjobchgncdgfaaaGreatDoorW.PrintLast Go.Proofs.YtjobchgncdgfaaaGreatDoorW.PrintMore Go.Proofs.YtjobchgncdgfaaaGreatDoor.Pure
set_option linter.unusedVariables false

theorem pre_one (c : UInt8) (s : List UInt8) (w : World) : Calls Tryz.prog 20 #[.string (B s), .string ⟨#[c]⟩] w fun e w' => e = .returned (.bool (decide (s.head? = some c))) ∧ Drawn0 w w' := by
  refine strings_HasPrefix.calls (B s) ⟨#[c]⟩ _ w ?_
  unfold strings_HasPrefix.f
  rw [B_data, show (⟨#[c]⟩ : ByteArray).data.toList = [c] from rfl]
  congr 1
  cases s with
  | nil => rfl
  | cons x t =>
    by_cases hx : x = c
    · subst hx
      simp [Lib.hasPrefix, List.isPrefixOf]
    · simp [Lib.hasPrefix, List.isPrefixOf, hx]
      exact fun e => hx e.symm
theorem white_walk (s : List UInt8) (hs : s.length ≤ 1048576) (w : World) : Calls Tryz.prog 18 #[.string (B s)] w fun e w' => e = .returned (.int .i64 (wht s : Int)) ∧ Below w.heap.size w w' := by
  have hsz : (B s).size = s.length := B_size s
  have ht : strings_TrimLeft.f (B s) ⟨#[32, 9, 10]⟩ = some (B (Lib.trimLeftS s [32, 9, 10])) := by
    unfold strings_TrimLeft.f
    rw [if_pos ⟨by omega, by decide, by decide⟩, B_data]
    rfl
  have HT := Lib.hid (fun W => strings_TrimLeft.calls (B s) ⟨#[32, 9, 10]⟩ _ W ht)
  have hz2 : (B (Lib.trimLeftS s [32, 9, 10])).size = (Lib.trimLeftS s [32, 9, 10]).length := B_size _
  have HW := Lib.hid (wht_int s)
  have hl := trim_le s [32, 9, 10]
  clear ht
  go_enter Tryz.func18, Tryz.ntmps18
  go_wp2_with (first | (go_at_call 33; refine (HT.out _).mono ?_; rintro e w' ⟨rfl, hb⟩; have HB := Lib.hid hb; clear hb))
  go_ret
  exact ⟨congrArg (fun z => Ending.returned (.int .i64 z)) HW.out, HB.out⟩
set_option maxHeartbeats 4000000 in
set_option maxRecDepth 100000 in
theorem lab_walk (s : List UInt8) (hs : s.length ≤ 1048576) (w : World) :
    Calls Tryz.prog 10 #[.string (B s)] w fun e w' => e = .returned (.tuple #[.string (B (lab s).1), .int .i64 ((lab s).2 : Int)]) ∧ Below w.heap.size w w' := by
  have HP := Lib.hid (fun W => pre_one 91 s W)
  by_cases h91 : s.head? = some 91
  · rw [decide_eq_true h91] at HP
    obtain ⟨t, rfl⟩ : ∃ t, s = 91 :: t := by
      cases s with
      | nil => cases h91
      | cons x t => exact ⟨t, by rw [Option.some.inj h91]⟩
    rw [List.length_cons] at hs
    have HE := Lib.hid (fun W => each_lab (91 :: t) (by rw [List.length_cons]; omega) 1 (by simp) W)
    rw [show List.drop 1 ((91 : UInt8) :: t) = t from rfl, show ((1 : Nat) : Int) = 1 from rfl] at HE
    have hEl := eachL_le pLab t
    obtain ⟨E, hE⟩ : ∃ E, eachL pLab t = E := ⟨_, rfl⟩
    have hlab : lab (91 :: t) = match t.drop E with
      | [] => ([], 0)
      | y :: _ => if y = 91 ∨ 999 < E ∨ wht (t.take E) = E then ([], 0) else (t.take E, E + 2) := by subst hE; rfl
    rw [hE] at HE hEl
    have HW := Lib.hid (fun W => white_walk (t.take E) (by rw [List.length_take]; omega) W)
    obtain ⟨k, hk⟩ : ∃ k, 1 + E = k := ⟨_, rfl⟩
    rw [hk] at HE
    have hk1 : 1 ≤ k := by omega
    have hk2 : k ≤ 1048577 := by omega
    have hex : (B (91 :: t)).extract 1 k = B (t.take E) := by rw [B_extract, show k - 1 = E by omega]; rfl
    have hn : (B (91 :: t)).size = t.length + 1 := B_size _
    have hget : ∀ y u, t.drop E = y :: u → ∃ h : k < (B (91 :: t)).size, (B (91 :: t))[k]'h = y := by
      intro y u e
      have hlt : E < t.length := by
        rcases Nat.lt_or_ge E t.length with h | h
        · exact h
        · rw [List.drop_eq_nil_of_le h] at e; cases e
      refine ⟨by omega, ?_⟩
      have e2 : (91 :: t).drop k = y :: u := by rw [← hk, Nat.add_comm, List.drop_succ_cons]; exact e
      have hk3 : k < (91 :: t).length := by rw [List.length_cons]; omega
      rw [List.drop_eq_getElem_cons hk3] at e2
      exact (List.getElem_toArray hk3).trans (List.cons.inj e2).1
    generalize B (91 :: t) = S at *
    cases ht : t.drop E with
    | nil =>
      rw [ht] at hlab
      have HL := Lib.hid hlab
      have hEt : t.length ≤ E := List.drop_eq_nil_iff.1 ht
      obtain rfl : k = t.length + 1 := by omega
      generalize t.length + 1 = n at *
      clear hlab hget ht hex hE h91 HW
      go_enter Tryz.func10, Tryz.ntmps10
      go_wp2_with fail
      refine (HP.out _).mono ?_
      rintro e w1 ⟨rfl, hd⟩
      have HB1 := Lib.hid hd.below
      clear hd
      go_wp2_with fail
      with_reducible refine (HE.out _).mono ?_
      rintro e w2 ⟨rfl, hb2⟩
      have HB2 := Lib.hid (HB1.out.trans (hb2.mono HB1.out.size))
      clear hb2
      go_wp2
      go_ret2
      rw [HL.out]
      exact ⟨rfl, HB2.out⟩
    | cons y u =>
      obtain ⟨hks, hi⟩ := hget y u ht
      rw [ht] at hlab
      simp only at hlab
      have hkn : k < t.length + 1 := by omega
      have hkn2 : (1 : Int) ≤ (k : Int) := by omega
      have hkn3 : (k : Int) ≤ (t.length : Int) + 1 := by omega
      have hkn4 : k ≤ t.length + 1 := by omega
      have q1 : ((k : Int) == ((t.length + 1 : Nat) : Int)) = false := beq_eq_false_iff_ne.2 (by omega)
      have q1b : ((k : Int) == ((t.length : Int) + 1)) = false := beq_eq_false_iff_ne.2 (by omega)
      have e91 : ((y.toNat : Int) = 91) ↔ y = 91 := u8_eq y 91 (by omega)
      by_cases h1 : y = 91
      · rw [if_pos (.inl h1)] at hlab
        have HL := Lib.hid hlab
        have q2 : ((y.toNat : Int) == 91) = true := beq_iff_eq.2 (e91.2 h1)
        clear hlab hget ht hex hE h91 HW e91 h1
        go_enter Tryz.func10, Tryz.ntmps10
        go_wp2_with fail
        refine (HP.out _).mono ?_
        rintro e w1 ⟨rfl, hd⟩
        have HB1 := Lib.hid hd.below
        clear hd
        go_wp2_with fail
        with_reducible refine (HE.out _).mono ?_
        rintro e w2 ⟨rfl, hb2⟩
        have HB2 := Lib.hid (HB1.out.trans (hb2.mono HB1.out.size))
        clear hb2
        go_wp2
        go_ret2
        rw [HL.out]
        exact ⟨rfl, HB2.out⟩
      · have q2 : ((y.toNat : Int) == 91) = false := beq_eq_false_iff_ne.2 (fun e => h1 (e91.1 e))
        by_cases h2 : 999 < E
        · rw [if_pos (.inr (.inl h2))] at hlab
          have HL := Lib.hid hlab
          have q3 : decide ((999 : Int) < (k : Int) - 1) = true := decide_eq_true (by omega)
          clear hlab hget ht hex hE h91 HW e91 h1
          go_enter Tryz.func10, Tryz.ntmps10
          go_wp2_with fail
          refine (HP.out _).mono ?_
          rintro e w1 ⟨rfl, hd⟩
          have HB1 := Lib.hid hd.below
          clear hd
          go_wp2_with fail
          with_reducible refine (HE.out _).mono ?_
          rintro e w2 ⟨rfl, hb2⟩
          have HB2 := Lib.hid (HB1.out.trans (hb2.mono HB1.out.size))
          clear hb2
          go_wp2
          go_ret2
          rw [HL.out]
          exact ⟨rfl, HB2.out⟩
        · have q3 : decide ((999 : Int) < (k : Int) - 1) = false := decide_eq_false (by omega)
          by_cases h3 : wht (t.take E) = E
          · rw [if_pos (.inr (.inr h3))] at hlab
            have HL := Lib.hid hlab
            have q4 : ((wht (t.take E) : Int) == (k : Int) - 1) = true := beq_iff_eq.2 (by omega)
            clear hlab hget ht hE h91 e91 h1 h3
            go_enter Tryz.func10, Tryz.ntmps10
            go_wp2_with fail
            refine (HP.out _).mono ?_
            rintro e w1 ⟨rfl, hd⟩
            have HB1 := Lib.hid hd.below
            clear hd
            go_wp2_with fail
            with_reducible refine (HE.out _).mono ?_
            rintro e w2 ⟨rfl, hb2⟩
            have HB2 := Lib.hid (HB1.out.trans (hb2.mono HB1.out.size))
            clear hb2
            go_wp2_with fail
            with_reducible refine (HW.out _).mono ?_
            rintro e w3 ⟨rfl, hb3⟩
            have HB3 := Lib.hid (HB2.out.trans (hb3.mono HB2.out.size))
            clear hb3
            go_wp2
            go_ret2
            rw [HL.out]
            exact ⟨rfl, HB3.out⟩
          · rw [if_neg (by rintro (h | h | h); exact h1 h; exact h2 h; exact h3 h)] at hlab
            have HL := Lib.hid hlab
            have q4 : ((wht (t.take E) : Int) == (k : Int) - 1) = false := beq_eq_false_iff_ne.2 (by omega)
            have HK := Lib.hid (show ((k : Int) + 1) = ((E + 2 : Nat) : Int) by omega)
            clear hlab hget ht hE h91 e91 h1 h3
            go_enter Tryz.func10, Tryz.ntmps10
            go_wp2_with fail
            refine (HP.out _).mono ?_
            rintro e w1 ⟨rfl, hd⟩
            have HB1 := Lib.hid hd.below
            clear hd
            go_wp2_with fail
            with_reducible refine (HE.out _).mono ?_
            rintro e w2 ⟨rfl, hb2⟩
            have HB2 := Lib.hid (HB1.out.trans (hb2.mono HB1.out.size))
            clear hb2
            go_wp2_with fail
            with_reducible refine (HW.out _).mono ?_
            rintro e w3 ⟨rfl, hb3⟩
            have HB3 := Lib.hid (HB2.out.trans (hb3.mono HB2.out.size))
            clear hb3
            go_wp2
            go_ret2
            rw [HL.out]
            exact ⟨by first | rfl | (rw [HK.out]; rfl) | (rw [← HK.out]; rfl), HB3.out⟩
  · rw [decide_eq_false h91] at HP
    have hrd : lab s = ([], 0) := by
      cases s with
      | nil => rfl
      | cons x t => rw [lab, if_neg (fun e => h91 (by rw [e]; rfl))]
    rw [hrd]
    clear hrd h91
    go_enter Tryz.func10, Tryz.ntmps10
    go_wp2_with fail
    refine (HP.out _).mono ?_
    rintro e w1 ⟨rfl, hd⟩
    have HB1 := Lib.hid hd.below
    clear hd
    go_wp2
    go_ret2
    exact ⟨rfl, HB1.out⟩
set_option maxHeartbeats 4000000 in
set_option maxRecDepth 100000 in
theorem ang_walk (x : UInt8) (t : List UInt8) (hs : t.length ≤ 1048575) (w : World) (hLd : Laid w) :
    Calls Tryz.prog 24 #[.string (B (x :: t))] w fun e w' => e = .returned (.tuple #[.string (B (ang t).1), .int .i64 ((ang t).2.1 : Int), .bool (ang t).2.2]) ∧ Below w.heap.size w w' := by
  have HLd := Lib.hid hLd
  clear hLd
  have HE := Lib.hid (fun W => each_ang (x :: t) (by rw [List.length_cons]; omega) 1 (by simp) W)
  rw [show List.drop 1 (x :: t) = t from rfl, show ((1 : Nat) : Int) = 1 from rfl] at HE
  have hEl := eachL_le pAng t
  obtain ⟨E, hE⟩ : ∃ E, eachL pAng t = E := ⟨_, rfl⟩
  have hlab : ang t = match t.drop E with
    | [] => ([], 0, false)
    | y :: _ => if y = 62 then (une (t.take E), E + 2, true) else ([], 0, false) := by unfold ang; subst hE; rfl
  rw [hE] at HE hEl
  have HW := Lib.hid (fun W => unesc_walk (t.take E) (by rw [List.length_take]; omega) W)
  obtain ⟨k, hk⟩ : ∃ k, 1 + E = k := ⟨_, rfl⟩
  rw [hk] at HE
  have hk1 : 1 ≤ k := by omega
  have hk2 : k ≤ 1048577 := by omega
  have hex : (B (x :: t)).extract 1 k = B (t.take E) := by rw [B_extract, show k - 1 = E by omega]; rfl
  have hn : (B (x :: t)).size = t.length + 1 := B_size _
  have hget : ∀ y u, t.drop E = y :: u → ∃ h : k < (B (x :: t)).size, (B (x :: t))[k]'h = y := by
    intro y u e
    have hlt : E < t.length := by
      rcases Nat.lt_or_ge E t.length with h | h
      · exact h
      · rw [List.drop_eq_nil_of_le h] at e; cases e
    refine ⟨by omega, ?_⟩
    have e2 : (x :: t).drop k = y :: u := by rw [← hk, Nat.add_comm, List.drop_succ_cons]; exact e
    have hk3 : k < (x :: t).length := by rw [List.length_cons]; omega
    rw [List.drop_eq_getElem_cons hk3] at e2
    exact (List.getElem_toArray hk3).trans (List.cons.inj e2).1
  generalize B (x :: t) = S at *
  cases ht : t.drop E with
  | nil =>
    rw [ht] at hlab
    have HL := Lib.hid hlab
    have hEt : t.length ≤ E := List.drop_eq_nil_iff.1 ht
    obtain rfl : k = t.length + 1 := by omega
    generalize t.length + 1 = n at *
    clear hlab hget ht hex hE HW
    go_enter Tryz.func24, Tryz.ntmps24
    go_wp2_with fail
    with_reducible refine (HE.out _).mono ?_
    rintro e w2 ⟨rfl, hb2⟩
    have HB2 := Lib.hid hb2
    clear hb2
    go_wp2
    go_ret3
    rw [HL.out]
    exact ⟨rfl, HB2.out⟩
  | cons y u =>
    obtain ⟨hks, hi⟩ := hget y u ht
    rw [ht] at hlab
    simp only at hlab
    have hkn : k < t.length + 1 := by omega
    have hkn2 : (1 : Int) ≤ (k : Int) := by omega
    have hkn3 : (k : Int) ≤ (t.length : Int) + 1 := by omega
    have hkn4 : k ≤ t.length + 1 := by omega
    have q1 : ((k : Int) == ((t.length + 1 : Nat) : Int)) = false := beq_eq_false_iff_ne.2 (by omega)
    have q1b : ((k : Int) == ((t.length : Int) + 1)) = false := beq_eq_false_iff_ne.2 (by omega)
    have e62 : ((y.toNat : Int) = 62) ↔ y = 62 := u8_eq y 62 (by omega)
    by_cases h1 : y = 62
    · rw [if_pos h1] at hlab
      have HL := Lib.hid hlab
      have q2 : ((y.toNat : Int) == 62) = true := beq_iff_eq.2 (e62.2 h1)
      have q2b : ((y.toNat : Int) != 62) = false := by rw [bne, q2]; rfl
      have HK := Lib.hid (show ((k : Int) + 1) = ((E + 2 : Nat) : Int) by omega)
      clear hlab hget ht hE e62 h1
      go_enter Tryz.func24, Tryz.ntmps24
      go_wp2_with fail
      with_reducible refine (HE.out _).mono ?_
      rintro e w2 ⟨rfl, hb2⟩
      have HB2 := Lib.hid hb2
      clear hb2
      go_wp2_with fail
      with_reducible refine (HW.out _ (HLd.out.go HB2.out)).mono ?_
      rintro e w3 ⟨rfl, hb3⟩
      have HB3 := Lib.hid (HB2.out.trans (hb3.mono HB2.out.size))
      clear hb3
      go_wp2
      go_ret3
      rw [HL.out]
      exact ⟨by first | rfl | (rw [HK.out]; rfl), HB3.out⟩
    · rw [if_neg h1] at hlab
      have HL := Lib.hid hlab
      have q2 : ((y.toNat : Int) == 62) = false := beq_eq_false_iff_ne.2 (fun e => h1 (e62.1 e))
      have q2b : ((y.toNat : Int) != 62) = true := by rw [bne, q2]; rfl
      clear hlab hget ht hE e62 h1
      go_enter Tryz.func24, Tryz.ntmps24
      go_wp2_with fail
      with_reducible refine (HE.out _).mono ?_
      rintro e w2 ⟨rfl, hb2⟩
      have HB2 := Lib.hid hb2
      clear hb2
      go_wp2
      go_ret3
      rw [HL.out]
      exact ⟨rfl, HB2.out⟩
theorem dstL_le : ∀ (l : List UInt8) (o : Nat) (d : Bool), (dstL l o d).1 ≤ l.length ∧ (dstL l o d).2.1 ≤ o + l.length
  | [], o, d => ⟨Nat.le_refl _, Nat.le_refl _⟩
  | [x], o, d => by
    have := dsto_le o x o (Nat.le_refl _)
    unfold dstL
    split
    · exact ⟨Nat.zero_le _, Nat.le_add_right _ _⟩
    · exact ⟨Nat.le_refl _, this⟩
  | x :: y :: t, o, d => by
    have h1 := dstL_le t o d
    have h2 := dstL_le (y :: t) (dsto o x) (dstd o d x)
    have h3 := dsto_le o x o (Nat.le_refl _)
    unfold dstL
    simp only [List.length_cons] at h2 ⊢
    split
    · exact ⟨by show _ + 2 ≤ _; omega, by show (dstL t o d).2.1 ≤ _; omega⟩
    · split
      · exact ⟨Nat.zero_le _, Nat.le_add_right _ _⟩
      · exact ⟨by show _ + 1 ≤ _; omega, by show (dstL (y :: t) _ _).2.1 ≤ _; omega⟩
end Go.Proofs.YtjobchgncdgfaaaGreatDoor.PA

namespace Go.Proofs.YtjobchgncdgfaaaGreatDoor.PA
open Go.RowKit Go.Proofs.YtjobchgncdgfaaaGreatDoor.Pl Go.Proofs.YtjobchgncdgfaaaGreatDoorW.PrintWords Go.Proofs.YtjobchgncdgfaaaGreatDoorW.PrintLast Go.Proofs.YtjobchgncdgfaaaGreatDoorW.PrintMore Go.Proofs.YtjobchgncdgfaaaGreatDoor.Pure
set_option linter.unusedVariables false

theorem al2_old (w : World) (o : Obj) (k : Nat) (h : k < w.heap.size) : (w.alloc o).heap[k]? = w.heap[k]? := ((Below.refl w.heap.size w).alloc (Nat.le_refl _) o).block k h
theorem al2_size (w : World) (o : Obj) : (w.alloc o).heap.size = w.heap.size + 1 := Array.size_push _
theorem al_two (w : World) (a b : Obj) : ((w.alloc a).alloc b).heap[w.heap.size]? = some a ∧ ((w.alloc a).alloc b).heap[w.heap.size + 1]? = some b ∧ Below w.heap.size w ((w.alloc a).alloc b) := by
  refine ⟨?_, ?_, ?_⟩
  · rw [al2_old _ _ _ (by rw [al2_size]; omega)]; exact heap_alloc_new w a
  · rw [← al2_size w a]; exact heap_alloc_new _ b
  · exact ((Below.refl _ w).alloc (Nat.le_refl _) a).alloc (by rw [al2_size]; omega) b
set_option maxHeartbeats 4000000 in
set_option maxRecDepth 100000 in
theorem dst_walk (s : List UInt8) (hs : s.length ≤ 1048576) (w : World) (hLd : Laid w) :
    Calls Tryz.prog 12 #[.string (B s)] w fun e w' => e = .returned (.tuple #[.string (B (dst s).1), .int .i64 ((dst s).2.1 : Int), .bool (dst s).2.2]) ∧ Below w.heap.size w w' := by
  have HP := Lib.hid (fun W => pre_one 60 s W)
  by_cases h60 : s.head? = some 60
  · rw [decide_eq_true h60] at HP
    obtain ⟨t, rfl⟩ : ∃ t, s = 60 :: t := by
      cases s with
      | nil => cases h60
      | cons x t => exact ⟨t, by rw [Option.some.inj h60]⟩
    rw [List.length_cons] at hs
    have HA := Lib.hid (ang_walk 60 t (by omega))
    have HD := Lib.hid (show dst (60 :: t) = ang t by unfold dst; exact if_pos rfl)
    have HLd := Lib.hid hLd
    generalize B (60 :: t) = S at *
    clear h60 hLd
    go_enter Tryz.func12, Tryz.ntmps12
    go_wp2_with fail
    refine (HP.out _).mono ?_
    rintro e w1 ⟨rfl, hd⟩
    have HB1 := Lib.hid hd.below
    clear hd
    go_wp2_with fail
    with_reducible refine (HA.out _ (HLd.out.go HB1.out)).mono ?_
    rintro e w2 ⟨rfl, hb2⟩
    have HB2 := Lib.hid (HB1.out.trans (hb2.mono HB1.out.size))
    clear hb2
    go_wp2
    go_ret3
    rw [HD.out]
    exact ⟨rfl, HB2.out⟩
  · rw [decide_eq_false h60] at HP
    have hD : dst s = if (dstL s 0 false).1 = 0 ∨ 0 < (dstL s 0 false).2.1 ∨ (dstL s 0 false).2.2 = true then ([], 0, false) else (une (s.take (dstL s 0 false).1), (dstL s 0 false).1, true) := by unfold dst; rw [if_neg h60]
    have HLd := Lib.hid hLd
    have hle := dstL_le s 0 false
    have HE := Lib.hid (each_dst s (by omega))
    have HW := Lib.hid (fun W => unesc_walk (s.take (dstL s 0 false).1) (by rw [List.length_take]; omega) W)
    have hex : (B s).extract 0 (dstL s 0 false).1 = B (s.take (dstL s 0 false).1) := B_to s _
    have hn : (B s).size = s.length := B_size _
    obtain ⟨k, hk⟩ : ∃ x, (dstL s 0 false).1 = x := ⟨_, rfl⟩
    obtain ⟨o, ho⟩ : ∃ x, (dstL s 0 false).2.1 = x := ⟨_, rfl⟩
    obtain ⟨d, hd⟩ : ∃ x, (dstL s 0 false).2.2 = x := ⟨_, rfl⟩
    rw [hk, ho, hd] at HE hD
    rw [hk] at HW hex
    rw [hk, ho] at hle
    obtain ⟨hle1, hle2⟩ := hle
    clear hk ho hd h60 hLd
    generalize B (s.take k) = T at *
    generalize B s = S at *
    go_enter Tryz.func12, Tryz.ntmps12
    go_wp2_with fail
    refine (HP.out _).mono ?_
    rintro e w1 ⟨rfl, hd⟩
    have HB1 := Lib.hid hd.below
    clear hd
    go_wp2_with fail
    obtain ⟨h1, h2, h3⟩ := al_two w1 (.cells #[.int .i64 0] 3 (0, 0)) (.cells #[.bool false] 4 (0, 0))
    obtain ⟨w2, hw2⟩ : ∃ w2, w2 = (w1.alloc (.cells #[.int .i64 0] 3 (0, 0))).alloc (.cells #[.bool false] 4 (0, 0)) := ⟨_, rfl⟩
    rw [← hw2] at h1 h2 h3
    rw [show ((w1.alloc (Obj.cells #[Value.int IntKind.i64 0] 3)).alloc (Obj.cells #[Value.bool false] 4)) = w2 from hw2.symm]
    clear hw2
    have HB2 := Lib.hid (HB1.out.trans (h3.mono HB1.out.size))
    have hsz := HB1.out.size
    clear h3
    obtain ⟨b, hb⟩ : ∃ b, w1.heap.size = b := ⟨_, rfl⟩
    rw [hb] at h1 h2 hsz ⊢
    clear hb
    have hbx : Box2 b 0 false w2 := ⟨h1, h2⟩
    with_reducible refine (HE.out b w2 hbx).mono ?_
    rintro e w3 ⟨rfl, hx3, hb3⟩
    have HB3 := Lib.hid (HB2.out.trans (hb3.mono hsz))
    have c1 := cell_of_one hx3.1
    have c2 := cell_of_one hx3.2
    clear h1 h2 hx3 hb3 HB2 HB1 hsz HE HP
    by_cases hk0 : k = 0
    · subst hk0
      rw [if_pos (.inl rfl)] at hD
      have HD := Lib.hid hD
      clear hD
      go_wp2_with fail
      go_wp2
      go_ret3
      rw [HD.out]
      exact ⟨rfl, HB3.out⟩
    · have q1 : ((k : Int) == 0) = false := beq_eq_false_iff_ne.2 (by omega)
      by_cases ho0 : 0 < o
      · have q2 : decide ((0 : Int) < (o : Int)) = true := decide_eq_true (by omega)
        rw [if_pos (.inr (.inl ho0))] at hD
        have HD := Lib.hid hD
        clear hD
        go_wp2
        go_ret3
        rw [HD.out]
        exact ⟨rfl, HB3.out⟩
      · have q2 : decide ((0 : Int) < (o : Int)) = false := decide_eq_false (by omega)
        cases d with
        | true =>
          rw [if_pos (.inr (.inr rfl))] at hD
          have HD := Lib.hid hD
          clear hD
          go_wp2
          go_ret3
          rw [HD.out]
          exact ⟨rfl, HB3.out⟩
        | false =>
          rw [if_neg (by rintro (h | h | h); exact hk0 h; exact ho0 h; cases h)] at hD
          have HD := Lib.hid hD
          have hks : k ≤ s.length := hle1
          clear hD
          go_wp2_with fail
          with_reducible refine (HW.out _ (HLd.out.go HB3.out)).mono ?_
          rintro e w4 ⟨rfl, hb4⟩
          have HB4 := Lib.hid (HB3.out.trans (hb4.mono HB3.out.size))
          clear hb4
          go_wp2
          go_ret3
          rw [HD.out]
          exact ⟨rfl, HB4.out⟩
end Go.Proofs.YtjobchgncdgfaaaGreatDoor.PA

namespace Go.Proofs.YtjobchgncdgfaaaGreatDoor.PA
open Go.RowKit Go.Proofs.YtjobchgncdgfaaaGreatDoorW.PrintWords Go.Proofs.YtjobchgncdgfaaaGreatDoorW.PrintLast Go.Proofs.YtjobchgncdgfaaaGreatDoorW.PrintMore
attribute [local go_sem] max2_int min2_int max_two min_two max_three min_three max_four min_four   -- for this text's walks alone
set_option linter.unusedVariables false
set_option linter.unusedSimpArgs false







/-! ### link_gap: function 31 -/
def link_gap.l0 : Nat → List ByteArray → Int → Option (Bool)
  | 0, _, _ => none
  | k + 1, x3, x4 => if x4 < (wrap64 ((x3.length : Int) - 1)) then (if 0 ≤ x4 then (if x4 < (x3.length : Int) then ((strings_Trim.f (rdOf ByteArray.empty x3 x4) (⟨#[32, 9]⟩ : ByteArray)).bind fun t153 => (if t153.toList = ([] : List UInt8) then (some true) else (link_gap.l0 k x3 (wrap64 (x4 + 1))))) else (none)) else (none)) else (some false)
def link_gap.f (k : Nat) (a0 : ByteArray) : Option (Bool) := (strings_Split.f a0 (⟨#[10]⟩ : ByteArray)).bind fun t149 => (link_gap.l0 k t149 1)
set_option maxHeartbeats 8000000 in
set_option maxRecDepth 100000 in
theorem link_gap.calls (k : Nat) (a0 : ByteArray) (r : Bool) (w : World) (hLd : Laid w) (h : link_gap.f k a0 = some r) :
    Calls Tryz.prog 31 #[.string a0] w fun e w' => e = .returned (.bool r) ∧ Below w.heap.size w w' := by
  have HB := Aside0.mk (Below.refl w.heap.size w)
  have H : ((strings_Split.f a0 (⟨#[10]⟩ : ByteArray)).bind fun t149 => (link_gap.l0 k t149 1)) = some r := h
  clear h
  replace H := Option.bind_eq_some_iff.mp H
  obtain ⟨t149, A20, H⟩ := H
  replace H : (link_gap.l0 k t149 1) = some r := H
  have A2 := Aside0.mk A20
  clear A20
  have H' := Aside0.mk H
  clear H
  go_enter Tryz.func31, Tryz.ntmps31
  go_wp2_with (first | ((with_reducible refine gate_callee (f := 43) rfl ?_); refine goesL_ (some 6) rfl rfl Tryz.func43 (by kernel_rfl) rfl #[.string a0, .string (⟨#[10]⟩ : ByteArray)] rfl (by (try simp only [List.map_toArray, List.map_cons, List.map_nil]); first | done | rfl | (simp only [List.length_drop, List.length_take]; rfl)) ?_; (with_reducible refine (strings_Split.calls a0 (⟨#[10]⟩ : ByteArray) t149 _ ?side1 A2.out).mono ?_); (case side1 => exact Laid.go hLd (by repeat (first | (with_reducible first | exact HB.out | apply below_alloc | apply pw_below_drewN | apply below_drew1) | exact HB.out))); rintro e w3 ⟨v150, rfl, ho0, hb⟩; refine ⟨_, rfl, ?_⟩; have n0_ := Aside0.mk (Kd.R_lower ho0 (below_size (by repeat (first | (with_reducible first | exact HB.out | apply below_alloc | apply pw_below_drewN | apply below_drew1) | exact HB.out)))); have n1_ := Aside0.mk (below_step (by repeat (first | (with_reducible first | exact HB.out | apply below_alloc | apply pw_below_drewN | apply below_drew1) | exact HB.out)) hb); clear HB; have HO151 := n0_; have HB := n1_; clear n0_ n1_; (try clear hb); (try clear hb2); (try clear hk); (try clear hi); (try clear ho0)))
  go_loopg [4] k (fun kq v4 w' => ∃ (x4_1 : Int), v4 = .int .i64 x4_1 ∧ Aside0 (link_gap.l0 kq t149 x4_1 = some r) ∧ Aside0 (kq ≤ k) ∧ Aside0 (Kd.R Kd.string 9 w' w.heap.size (fun _ => True) v150 t149) ∧ Aside0 (Below w.heap.size w w'))
  case atStart => exact ⟨(1), (by first | rfl | (simp; done) | (simp [*]; done)), H', ⟨Nat.le_refl _⟩, ⟨by (with_reducible repeat (first | apply Kd.R_alloc | apply Kd.R_drewN | apply Kd.R_drew)); exact HO151.out⟩, ⟨by repeat (first | (with_reducible first | exact HB.out | apply below_alloc | apply pw_below_drewN | apply below_drew1) | exact HB.out)⟩⟩
  case round =>
    clear H'
    try clear p2
    try clear c3
    obtain ⟨x4_1, rfl, HA, HK1, HO_3, HB⟩ := hrel
    cases gk with
    | zero => exact absurd HA.out (by simp [link_gap.l0])
    | succ k1 =>
      have H := HA.out
      clear HA
      simp only [link_gap.l0] at H
      by_cases c4 : x4_1 < (wrap64 ((t149.length : Int) - 1))
      · rw [if_pos c4] at H
        have c4b0 : decide (x4_1 < (wrap64 ((t149.length : Int) - 1))) = true := decide_eq_true c4
        clear c4
        by_cases c5 : 0 ≤ x4_1
        · rw [if_pos c5] at H
          have c5b0 : decide (0 ≤ x4_1) = true := decide_eq_true c5
          clear c5
          by_cases c6 : x4_1 < (t149.length : Int)
          · rw [if_pos c6] at H
            have c6b0 : decide (x4_1 < (t149.length : Int)) = true := decide_eq_true c6
            clear c6
            replace H := Option.bind_eq_some_iff.mp H
            obtain ⟨t153, A70, H⟩ := H
            replace H : (if t153.toList = ([] : List UInt8) then (some true) else (link_gap.l0 k1 t149 (wrap64 (x4_1 + 1)))) = some r := H
            have A7 := Aside0.mk A70
            clear A70
            by_cases c8 : t153.toList = ([] : List UInt8)
            · rw [if_pos c8] at H
              have c8b0 : (t153.toList == ([] : List UInt8)) = true := beq_iff_eq.mpr c8
              have c8b1 : (t153.toList != ([] : List UInt8)) = false := bne_eq_false_iff_eq.mpr c8
              clear c8
              obtain rfl := Option.some.inj H
              obtain ⟨Ao9, co9, eo9⟩ := Kd.R_slice HO_3.out
              subst eo9
              have p152 : 0 ≤ (x4_1 : Int) := of_decide_eq_true (by first | (with_reducible assumption) | assumption)
              have q152 : x4_1 < (t149.length : Int) := of_decide_eq_true (by first | (with_reducible assumption) | assumption)
              obtain ⟨ad152, e152, hx152_0⟩ := Kd.at_string (Kd.R_reads' HO_3.out).2.2 x4_1 p152 q152
              cases e152
              replace p152 := eq_true p152
              replace q152 := eq_true q152
              go_wp2_with (first | ((with_reducible refine gate_callee (f := 44) rfl ?_); refine goesL_ (some 18) rfl rfl Tryz.func44 (by kernel_rfl) rfl #[.string (rdOf ByteArray.empty t149 x4_1), .string (⟨#[32, 9]⟩ : ByteArray)] rfl (by (try simp only [List.map_toArray, List.map_cons, List.map_nil]); first | done | rfl | (simp only [List.length_drop, List.length_take]; rfl)) ?_; (with_reducible refine (strings_Trim.calls (rdOf ByteArray.empty t149 x4_1) (⟨#[32, 9]⟩ : ByteArray) t153 _ A7.out).mono ?_); rintro e w10 ⟨rfl, hb⟩; refine ⟨_, rfl, ?_⟩; have n0_ := Aside0.mk (Kd.R_below (by (with_reducible repeat (first | apply Kd.R_alloc | apply Kd.R_drewN | apply Kd.R_drew)); exact HO_3.out) hb); have n1_ := Aside0.mk (below_step (by repeat (first | (with_reducible first | exact HB.out | apply below_alloc | apply pw_below_drewN | apply below_drew1) | exact HB.out)) hb); clear HO_3; clear HB; have HO_3 := n0_; have HB := n1_; clear n0_ n1_; (try clear hb); (try clear hb2); (try clear hk); (try clear hi)))
              go_ret
              exact ⟨by first | rfl | exact retNe _ | (simp [errW_none, errW_some] <;> rfl) | (simp [*, errW_none, errW_some] <;> rfl), by repeat (first | (with_reducible first | exact HB.out | apply below_alloc | apply pw_below_drewN | apply below_drew1) | exact HB.out)⟩
            · rw [if_neg c8] at H
              have c8b0 : (t153.toList == ([] : List UInt8)) = false := beq_eq_false_iff_ne.mpr c8
              have c8b1 : (t153.toList != ([] : List UInt8)) = true := bne_iff_ne.mpr c8
              have H' := Aside0.mk H
              clear H
              obtain ⟨Ao11, co11, eo11⟩ := Kd.R_slice HO_3.out
              subst eo11
              have p152 : 0 ≤ (x4_1 : Int) := of_decide_eq_true (by first | (with_reducible assumption) | assumption)
              have q152 : x4_1 < (t149.length : Int) := of_decide_eq_true (by first | (with_reducible assumption) | assumption)
              obtain ⟨ad152, e152, hx152_0⟩ := Kd.at_string (Kd.R_reads' HO_3.out).2.2 x4_1 p152 q152
              cases e152
              replace p152 := eq_true p152
              replace q152 := eq_true q152
              go_wp2_with (first | ((with_reducible refine gate_callee (f := 44) rfl ?_); refine goesL_ (some 18) rfl rfl Tryz.func44 (by kernel_rfl) rfl #[.string (rdOf ByteArray.empty t149 x4_1), .string (⟨#[32, 9]⟩ : ByteArray)] rfl (by (try simp only [List.map_toArray, List.map_cons, List.map_nil]); first | done | rfl | (simp only [List.length_drop, List.length_take]; rfl)) ?_; (with_reducible refine (strings_Trim.calls (rdOf ByteArray.empty t149 x4_1) (⟨#[32, 9]⟩ : ByteArray) t153 _ A7.out).mono ?_); rintro e w12 ⟨rfl, hb⟩; refine ⟨_, rfl, ?_⟩; have n0_ := Aside0.mk (Kd.R_below (by (with_reducible repeat (first | apply Kd.R_alloc | apply Kd.R_drewN | apply Kd.R_drew)); exact HO_3.out) hb); have n1_ := Aside0.mk (below_step (by repeat (first | (with_reducible first | exact HB.out | apply below_alloc | apply pw_below_drewN | apply below_drew1) | exact HB.out)) hb); clear HO_3; clear HB; have HO_3 := n0_; have HB := n1_; clear n0_ n1_; (try clear hb); (try clear hb2); (try clear hk); (try clear hi)))
              go_roundg k1
              case measure => have := HK1.out; omega
              case rel => exact ⟨(wrap64 (x4_1 + 1)), (by first | rfl | (simp; done) | (simp [*]; done)), H', ⟨by have := HK1.out; omega⟩, ⟨by (with_reducible repeat (first | apply Kd.R_alloc | apply Kd.R_drewN | apply Kd.R_drew)); exact HO_3.out⟩, ⟨by repeat (first | (with_reducible first | exact HB.out | apply below_alloc | apply pw_below_drewN | apply below_drew1) | exact HB.out)⟩⟩
          · rw [if_neg c6] at H
            exact absurd H (by simp)
        · rw [if_neg c5] at H
          exact absurd H (by simp)
      · rw [if_neg c4] at H
        have c4b0 : decide (x4_1 < (wrap64 ((t149.length : Int) - 1))) = false := decide_eq_false c4
        clear c4
        obtain rfl := Option.some.inj H
        obtain ⟨Ao13, co13, eo13⟩ := Kd.R_slice HO_3.out
        subst eo13
        go_wp2
        go_ret
        exact ⟨by first | rfl | exact retNe _ | (simp [errW_none, errW_some] <;> rfl) | (simp [*, errW_none, errW_some] <;> rfl), by repeat (first | (with_reducible first | exact HB.out | apply below_alloc | apply pw_below_drewN | apply below_drew1) | exact HB.out)⟩




end Go.Proofs.YtjobchgncdgfaaaGreatDoor.PA

namespace Go.Proofs.YtjobchgncdgfaaaGreatDoor.PA
open Go.RowKit Go.Proofs.YtjobchgncdgfaaaGreatDoor.Pl Go.Proofs.YtjobchgncdgfaaaGreatDoorW.PrintWords Go.Proofs.YtjobchgncdgfaaaGreatDoorW.PrintLast Go.Proofs.YtjobchgncdgfaaaGreatDoorW.PrintMore Go.Proofs.YtjobchgncdgfaaaGreatDoor.Pure
set_option linter.unusedVariables false

theorem gap_l (s : List UInt8) (hs : s.length ≤ 1048576) : ∀ (d i : Nat), 1 ≤ i → i + d = (lns s).length → Ev (fun k => link_gap.l0 k ((lns s).map B) (i : Int)) (mid true ((lns s).drop i)) := by
  have hln : (lns s).length ≤ s.length + 1 := lf_len s []
  intro d
  induction d with
  | zero =>
    intro i h1 hi
    rw [List.drop_eq_nil_of_le (by omega)]
    refine Ev.step (f := fun _ => some false) (fun k => ?_) (Ev.now _)
    simp only [link_gap.l0]
    rw [w64 (by rw [List.length_map]; omega) (by rw [List.length_map]; omega), if_neg (by rw [List.length_map]; omega)]
  | succ d ih =>
    intro i h1 hi
    have hil : i < (lns s).length := by omega
    have hd : (lns s).drop i = (lns s)[i] :: (lns s).drop (i + 1) := List.drop_eq_getElem_cons hil
    by_cases he : i + 1 = (lns s).length
    · rw [hd, List.drop_eq_nil_of_le (by omega)]
      refine Ev.step (f := fun _ => some false) (fun k => ?_) (Ev.now _)
      simp only [link_gap.l0]
      rw [w64 (by rw [List.length_map]; omega) (by rw [List.length_map]; omega), if_neg (by rw [List.length_map]; omega)]
    · have hil2 : i + 1 < (lns s).length := by omega
      have hd2 : (lns s).drop (i + 1) = (lns s)[i + 1] :: (lns s).drop (i + 2) := List.drop_eq_getElem_cons hil2
      have hm : mid true ((lns s).drop i) = (blk (lns s)[i] || mid true ((lns s).drop (i + 1))) := by rw [hd, hd2, mid, Bool.true_and]
      have hsz : ((lns s)[i]).length ≤ s.length := by
        have := lf_size s [] _ (List.getElem_mem hil)
        simpa using this
      have htr : strings_Trim.f (B (lns s)[i]) ⟨#[32, 9]⟩ = some (B (Lib.trimS (lns s)[i] [32, 9])) := by
        unfold strings_Trim.f
        rw [if_pos ⟨by rw [B_size]; omega, by decide, by decide⟩, B_data]
        rfl
      have hw : wrap64 ((i : Int) + 1) = ((i + 1 : Nat) : Int) := w64 (by omega) (by omega)
      have hstep : ∀ k, link_gap.l0 (k + 1) ((lns s).map B) (i : Int) = if blk (lns s)[i] = true then some true else link_gap.l0 k ((lns s).map B) ((i + 1 : Nat) : Int) := by
        intro k
        simp only [link_gap.l0]
        rw [w64 (by rw [List.length_map]; omega) (by rw [List.length_map]; omega), if_pos (by rw [List.length_map]; omega), if_pos (by omega), if_pos (by rw [List.length_map]; omega), getD_B i hil, htr, Option.bind_some, B_toList, hw]
        by_cases hb : blk (lns s)[i] = true
        · rw [if_pos hb, if_pos ((trim_nil _).2 hb)]
        · rw [if_neg hb, if_neg (fun e => hb ((trim_nil _).1 e))]
      rw [hm]
      by_cases hb : blk (lns s)[i] = true
      · rw [hb, Bool.true_or]
        refine Ev.step (f := fun _ => some true) (fun k => ?_) (Ev.now _)
        rw [hstep, if_pos hb]
      · rw [show blk (lns s)[i] = false by simpa using hb, Bool.false_or]
        refine Ev.step (fun k => ?_) (ih (i + 1) (by omega) (by omega))
        rw [hstep, if_neg hb]
theorem gap_ev (s : List UInt8) (hs : s.length ≤ 1048576) : Ev (fun k => link_gap.f k (B s)) (gp false s) := by
  have hp : (lns s).length ≠ 0 := fun e => lf_pos s [] (List.length_eq_zero_iff.1 e)
  have h := gap_l s hs ((lns s).length - 1) 1 (Nat.le_refl _) (by omega)
  rw [gp_lns] at h
  unfold link_gap.f
  rw [split_f s hs]
  exact h
theorem gap_walk (s : List UInt8) (hs : s.length ≤ 1048576) (w : World) (hLd : Laid w) : Calls Tryz.prog 31 #[.string (B s)] w fun e w' => e = .returned (.bool (gp false s)) ∧ Below w.heap.size w w' := by
  obtain ⟨k, hk⟩ := Ev.rounds (gap_ev s hs)
  exact link_gap.calls k (B s) _ w hLd hk
theorem cls_walk (s : List UInt8) (w : World) : Calls Tryz.prog 29 #[.string (B s)] w fun e w' => e = .returned (.int .u8 ((cls s).toNat : Int)) ∧ Drawn0 w w' := by
  cases s with
  | nil =>
    have hne : (B []).toList.isEmpty = true := by rw [B_toList]; rfl
    generalize B [] = S at *
    go_enter Tryz.func29, Tryz.ntmps29
    go_wp2
    go_ret
    exact ⟨rfl, Drawn0.refl _⟩
  | cons x t =>
    have hsz : (B (x :: t)).size = t.length + 1 := B_size _
    have hks : 0 < (B (x :: t)).size := by omega
    have hi : (B (x :: t))[0]'hks = x := rfl
    have e1 : ((x.toNat : Int) = 34) ↔ x = 34 := u8_eq x 34 (by omega)
    have e2 : ((x.toNat : Int) = 39) ↔ x = 39 := u8_eq x 39 (by omega)
    have e3 : ((x.toNat : Int) = 40) ↔ x = 40 := u8_eq x 40 (by omega)
    have hne : (B (x :: t)).toList.isEmpty = false := by rw [B_toList]; rfl
    have hc : cls (x :: t) = if x = 34 then x else if x = 39 then x else if x = 40 then 41 else 0 := rfl
    generalize B (x :: t) = S at *
    by_cases h1 : x = 34
    · rw [if_pos h1] at hc
      have HC := Lib.hid hc
      have q1 : ((x.toNat : Int) == 34) = true := beq_iff_eq.2 (e1.2 h1)
      clear hc e1 e2 e3 h1
      go_enter Tryz.func29, Tryz.ntmps29
      go_wp2
      go_ret
      rw [HC.out]
      exact ⟨rfl, Drawn0.refl _⟩
    · rw [if_neg h1] at hc
      have q1 : ((x.toNat : Int) == 34) = false := beq_eq_false_iff_ne.2 (fun e => h1 (e1.1 e))
      by_cases h2 : x = 39
      · rw [if_pos h2] at hc
        have HC := Lib.hid hc
        have q2 : ((x.toNat : Int) == 39) = true := beq_iff_eq.2 (e2.2 h2)
        clear hc e1 e2 e3 h1 h2
        go_enter Tryz.func29, Tryz.ntmps29
        go_wp2
        go_ret
        rw [HC.out]
        exact ⟨rfl, Drawn0.refl _⟩
      · rw [if_neg h2] at hc
        have q2 : ((x.toNat : Int) == 39) = false := beq_eq_false_iff_ne.2 (fun e => h2 (e2.1 e))
        by_cases h3 : x = 40
        · rw [if_pos h3] at hc
          have HC := Lib.hid hc
          have q3 : ((x.toNat : Int) == 40) = true := beq_iff_eq.2 (e3.2 h3)
          clear hc e1 e2 e3 h1 h2 h3
          go_enter Tryz.func29, Tryz.ntmps29
          go_wp2
          go_ret
          rw [HC.out]
          exact ⟨rfl, Drawn0.refl _⟩
        · rw [if_neg h3] at hc
          have HC := Lib.hid hc
          have q3 : ((x.toNat : Int) == 40) = false := beq_eq_false_iff_ne.2 (fun e => h3 (e3.1 e))
          clear hc e1 e2 e3 h1 h2 h3
          go_enter Tryz.func29, Tryz.ntmps29
          go_wp2
          go_ret
          rw [HC.out]
          exact ⟨rfl, Drawn0.refl _⟩
theorem ti_keep {w w5 w0 : World} {b : Nat} {x : Value} (hb5 : Below w.heap.size w w5)
    (h : w.cell? ⟨b, 0, none⟩ = some x ∧ Below w0.heap.size w0 w ∧ b + 1 ≤ w.heap.size) :
    w5.cell? ⟨b, 0, none⟩ = some x ∧ Below w0.heap.size w0 w5 ∧ b + 1 ≤ w5.heap.size := by
  obtain ⟨h1, h2, h3⟩ := h
  exact ⟨(hb5.cell (p := ⟨b, 0, none⟩) (by show b < _; omega)).trans h1, h2.trans (hb5.mono h2.size), Nat.le_trans h3 hb5.size⟩
set_option maxHeartbeats 4000000 in
set_option maxRecDepth 100000 in
theorem ttl_walk (s : List UInt8) (hs : s.length ≤ 1048576) (w : World) (hLd : Laid w) :
    Calls Tryz.prog 14 #[.string (B s)] w fun e w' => e = .returned (.tuple #[.string (B (ttl s).1), .int .i64 ((ttl s).2 : Int)]) ∧ Below w.heap.size w w' := by
  have HC := Lib.hid (fun W => cls_walk s W)
  have HLd := Lib.hid hLd
  clear hLd
  by_cases h0 : cls s = 0
  · have hT : ttl s = ([], 0) := by
      cases s with
      | nil => rfl
      | cons x t => unfold ttl; exact if_pos h0
    have HT := Lib.hid hT
    rw [h0] at HC
    clear hT h0
    go_enter Tryz.func14, Tryz.ntmps14
    go_wp2_with fail
    refine (HC.out _).mono ?_
    rintro e w1 ⟨rfl, hd⟩
    have HB1 := Lib.hid (hd.below.alloc hd.below.size (.cells #[.int .u8 (((0 : UInt8).toNat : Nat) : Int)] 5 (0, 0)))
    have hcell : (w1.alloc (.cells #[.int .u8 (((0 : UInt8).toNat : Nat) : Int)] 5 (0, 0))).cell? ⟨w1.heap.size, 0, none⟩ = some (.int .u8 (((0 : UInt8).toNat : Nat) : Int)) := cell_of_one (heap_alloc_new w1 _)
    have hz : (((0 : UInt8).toNat : Nat) : Int) = 0 := rfl
    rw [hz] at hcell HB1
    clear hd
    go_wp2
    go_ret2
    rw [HT.out]
    exact ⟨rfl, HB1.out⟩
  · obtain ⟨x, t, rfl⟩ : ∃ x t, s = x :: t := by
      cases s with
      | nil => exact absurd rfl h0
      | cons x t => exact ⟨x, t, rfl⟩
    rw [List.length_cons] at hs
    obtain ⟨en, hen⟩ : ∃ y, cls (x :: t) = y := ⟨_, rfl⟩
    have HE := Lib.hid (fun b W => each_tit (x :: t) (by rw [List.length_cons]; omega) 1 (by simp) b en W)
    rw [show List.drop 1 (x :: t) = t from rfl, show ((1 : Nat) : Int) = 1 from rfl] at HE
    have hEl := eachL_le (pTit en) t
    obtain ⟨E, hE⟩ : ∃ E, eachL (pTit en) t = E := ⟨_, rfl⟩
    have hlab : ttl (x :: t) = match t.drop E with
      | [] => ([], 0)
      | y :: _ => if y = en then (if gp false (t.take E) = true then ([], 0) else (une (t.take E), E + 2)) else ([], 0) := by subst hE; subst hen; exact if_neg h0
    rw [hE] at HE hEl
    rw [hen] at HC h0
    have HG := Lib.hid (fun W hW => gap_walk (t.take E) (by rw [List.length_take]; omega) W hW)
    have HW := Lib.hid (fun W => unesc_walk (t.take E) (by rw [List.length_take]; omega) W)
    obtain ⟨k, hk⟩ : ∃ k, 1 + E = k := ⟨_, rfl⟩
    rw [hk] at HE
    have hk1 : 1 ≤ k := by omega
    have hk2 : k ≤ 1048577 := by omega
    have hex : (B (x :: t)).extract 1 k = B (t.take E) := by rw [B_extract, show k - 1 = E by omega]; rfl
    have hn : (B (x :: t)).size = t.length + 1 := B_size _
    have hen0 : (((en.toNat : Nat) : Int) == 0) = false := beq_eq_false_iff_ne.2 (fun e => h0 ((u8_eq en 0 (by omega)).1 e))
    have hget : ∀ y u, t.drop E = y :: u → ∃ h : k < (B (x :: t)).size, (B (x :: t))[k]'h = y := by
      intro y u e
      have hlt : E < t.length := by
        rcases Nat.lt_or_ge E t.length with h | h
        · exact h
        · rw [List.drop_eq_nil_of_le h] at e; cases e
      refine ⟨by omega, ?_⟩
      have e2 : (x :: t).drop k = y :: u := by rw [← hk, Nat.add_comm, List.drop_succ_cons]; exact e
      have hk3 : k < (x :: t).length := by rw [List.length_cons]; omega
      rw [List.drop_eq_getElem_cons hk3] at e2
      exact (List.getElem_toArray hk3).trans (List.cons.inj e2).1
    generalize B (x :: t) = S at *
    cases ht : t.drop E with
    | nil =>
      rw [ht] at hlab
      have HL := Lib.hid hlab
      have hEt : t.length ≤ E := List.drop_eq_nil_iff.1 ht
      obtain rfl : k = t.length + 1 := by omega
      generalize t.length + 1 = n at *
      clear hlab hget ht hex hE HW HG hen h0
      go_enter Tryz.func14, Tryz.ntmps14
      go_wp2_with fail
      refine (HC.out _).mono ?_
      rintro e w1 ⟨rfl, hd⟩
      have hcell : (w1.alloc (.cells #[.int .u8 ((en.toNat : Nat) : Int)] 5 (0, 0))).cell? ⟨w1.heap.size, 0, none⟩ = some (.int .u8 ((en.toNat : Nat) : Int)) := cell_of_one (heap_alloc_new w1 _)
      have hlt : w1.heap.size < (w1.alloc (.cells #[.int .u8 ((en.toNat : Nat) : Int)] 5 (0, 0))).heap.size := by rw [al2_size]; omega
      have HB1 := Lib.hid (hd.below.alloc hd.below.size (.cells #[.int .u8 ((en.toNat : Nat) : Int)] 5 (0, 0)))
      clear hd
      go_wp2_with fail
      obtain ⟨w2, hw2⟩ : ∃ w2, w2 = w1.alloc (.cells #[.int .u8 ((en.toNat : Nat) : Int)] 5 (0, 0)) := ⟨_, rfl⟩
      rw [← hw2] at hcell hlt HB1
      rw [show (w1.alloc (Obj.cells #[Value.int IntKind.u8 ((en.toNat : Nat) : Int)] 5)) = w2 from hw2.symm]
      clear hw2
      obtain ⟨b, hb⟩ : ∃ b, w1.heap.size = b := ⟨_, rfl⟩
      rw [hb] at hcell hlt ⊢
      clear hb
      with_reducible refine (HE.out b w2 hlt hcell).mono ?_
      rintro e w3 ⟨rfl, hb3⟩
      have HB3 := Lib.hid (HB1.out.trans (hb3.mono HB1.out.size))
      have hc3 : w3.cell? ⟨b, 0, none⟩ = some (.int .u8 ((en.toNat : Nat) : Int)) := (hb3.cell (p := ⟨b, 0, none⟩) hlt).trans hcell
      clear hb3 hcell hlt HB1 HE HC
      go_wp2_with fail
      go_quiet (fail)
      go_wp2
      go_ret2
      rw [HL.out]
      exact ⟨rfl, pw_below_drewN HB3.out _⟩
    | cons y u =>
      obtain ⟨hks, hi⟩ := hget y u ht
      rw [ht] at hlab
      simp only at hlab
      have hkn : k < t.length + 1 := by omega
      have hkn2 : (1 : Int) ≤ (k : Int) := by omega
      have hkn3 : (k : Int) ≤ (t.length : Int) + 1 := by omega
      have hkn4 : k ≤ t.length + 1 := by omega
      have q1 : ((k : Int) == ((t.length + 1 : Nat) : Int)) = false := beq_eq_false_iff_ne.2 (by omega)
      have q1b : ((k : Int) == ((t.length : Int) + 1)) = false := beq_eq_false_iff_ne.2 (by omega)
      have eye : ((y.toNat : Int) = (en.toNat : Int)) ↔ y = en := ⟨fun h => UInt8.toNat_inj.1 (by omega), fun h => by rw [h]⟩
      by_cases h1 : y = en
      · rw [if_pos h1] at hlab
        have q2 : ((y.toNat : Int) == (en.toNat : Int)) = true := beq_iff_eq.2 (eye.2 h1)
        have q2b : ((y.toNat : Int) != (en.toNat : Int)) = false := by rw [bne, q2]; rfl
        cases hg : gp false (t.take E) with
        | true =>
          rw [if_pos hg] at hlab
          rw [hg] at HG
          have HL := Lib.hid hlab
          clear hlab hget ht hE eye h1 hg hen h0 HW
          go_enter Tryz.func14, Tryz.ntmps14
          go_wp2_with fail
          refine (HC.out _).mono ?_
          rintro e w1 ⟨rfl, hd⟩
          have hcell : (w1.alloc (.cells #[.int .u8 ((en.toNat : Nat) : Int)] 5 (0, 0))).cell? ⟨w1.heap.size, 0, none⟩ = some (.int .u8 ((en.toNat : Nat) : Int)) := cell_of_one (heap_alloc_new w1 _)
          have hlt : w1.heap.size < (w1.alloc (.cells #[.int .u8 ((en.toNat : Nat) : Int)] 5 (0, 0))).heap.size := by rw [al2_size]; omega
          have HB1 := Lib.hid (hd.below.alloc hd.below.size (.cells #[.int .u8 ((en.toNat : Nat) : Int)] 5 (0, 0)))
          clear hd
          go_wp2_with fail
          obtain ⟨w2, hw2⟩ : ∃ w2, w2 = w1.alloc (.cells #[.int .u8 ((en.toNat : Nat) : Int)] 5 (0, 0)) := ⟨_, rfl⟩
          rw [← hw2] at hcell hlt HB1
          rw [show (w1.alloc (Obj.cells #[Value.int IntKind.u8 ((en.toNat : Nat) : Int)] 5)) = w2 from hw2.symm]
          clear hw2
          obtain ⟨b, hb⟩ : ∃ b, w1.heap.size = b := ⟨_, rfl⟩
          rw [hb] at hcell hlt ⊢
          clear hb
          with_reducible refine (HE.out b w2 hlt hcell).mono ?_
          rintro e w3 ⟨rfl, hb3⟩
          have HB3 := Lib.hid (HB1.out.trans (hb3.mono HB1.out.size))
          have hc3 : w3.cell? ⟨b, 0, none⟩ = some (.int .u8 ((en.toNat : Nat) : Int)) := (hb3.cell (p := ⟨b, 0, none⟩) hlt).trans hcell
          have hlt3 : b + 1 ≤ w3.heap.size := Nat.le_trans hlt hb3.size
          have HS3 : w3.cell? ⟨b, 0, none⟩ = some (.int .u8 ((en.toNat : Nat) : Int)) ∧ Below w.heap.size w w3 ∧ b + 1 ≤ w3.heap.size := ⟨hc3, HB3.out, hlt3⟩
          have HG2 := Lib.hid (fun W (hS : W.cell? ⟨b, 0, none⟩ = some (.int .u8 ((en.toNat : Nat) : Int)) ∧ Below w.heap.size w W ∧ b + 1 ≤ W.heap.size) => HG.out W (HLd.out.go hS.2.1))
          clear hb3 hcell hlt hlt3 HB1 HB3 hc3 HE HC HG
          go_wp2_with fail
          go_region_held3 (fun W => W.cell? ⟨b, 0, none⟩ = some (.int .u8 ((en.toNat : Nat) : Int)) ∧ Below w.heap.size w W ∧ b + 1 ≤ W.heap.size)
            (first | (refine ti_keep hb5 ?_; assumption) | (refine ti_keep (pw_below_drewN (Below.refl _ _) _) ?_; assumption) | (refine ti_keep (Below.drew (Below.refl _ _)) ?_; assumption))
            (first | (go_at_call 31; refine (HG2.out _ (by assumption)).mono ?_; rintro e w5 ⟨rfl, hb5⟩))
          rename_i hh
          have HB4 := Lib.hid hh.2.1
          clear hh
          go_wp2
          go_ret2
          rw [HL.out]
          exact ⟨rfl, HB4.out⟩
        | false =>
          rw [if_neg (by rw [hg]; decide)] at hlab
          rw [hg] at HG
          have HL := Lib.hid hlab
          have HK := Lib.hid (show ((k : Int) + 1) = ((E + 2 : Nat) : Int) by omega)
          clear hlab hget ht hE eye h1 hg hen h0
          go_enter Tryz.func14, Tryz.ntmps14
          go_wp2_with fail
          refine (HC.out _).mono ?_
          rintro e w1 ⟨rfl, hd⟩
          have hcell : (w1.alloc (.cells #[.int .u8 ((en.toNat : Nat) : Int)] 5 (0, 0))).cell? ⟨w1.heap.size, 0, none⟩ = some (.int .u8 ((en.toNat : Nat) : Int)) := cell_of_one (heap_alloc_new w1 _)
          have hlt : w1.heap.size < (w1.alloc (.cells #[.int .u8 ((en.toNat : Nat) : Int)] 5 (0, 0))).heap.size := by rw [al2_size]; omega
          have HB1 := Lib.hid (hd.below.alloc hd.below.size (.cells #[.int .u8 ((en.toNat : Nat) : Int)] 5 (0, 0)))
          clear hd
          go_wp2_with fail
          obtain ⟨w2, hw2⟩ : ∃ w2, w2 = w1.alloc (.cells #[.int .u8 ((en.toNat : Nat) : Int)] 5 (0, 0)) := ⟨_, rfl⟩
          rw [← hw2] at hcell hlt HB1
          rw [show (w1.alloc (Obj.cells #[Value.int IntKind.u8 ((en.toNat : Nat) : Int)] 5)) = w2 from hw2.symm]
          clear hw2
          obtain ⟨b, hb⟩ : ∃ b, w1.heap.size = b := ⟨_, rfl⟩
          rw [hb] at hcell hlt ⊢
          clear hb
          with_reducible refine (HE.out b w2 hlt hcell).mono ?_
          rintro e w3 ⟨rfl, hb3⟩
          have HB3 := Lib.hid (HB1.out.trans (hb3.mono HB1.out.size))
          have hc3 : w3.cell? ⟨b, 0, none⟩ = some (.int .u8 ((en.toNat : Nat) : Int)) := (hb3.cell (p := ⟨b, 0, none⟩) hlt).trans hcell
          have hlt3 : b + 1 ≤ w3.heap.size := Nat.le_trans hlt hb3.size
          have HS3 : w3.cell? ⟨b, 0, none⟩ = some (.int .u8 ((en.toNat : Nat) : Int)) ∧ Below w.heap.size w w3 ∧ b + 1 ≤ w3.heap.size := ⟨hc3, HB3.out, hlt3⟩
          have HG2 := Lib.hid (fun W (hS : W.cell? ⟨b, 0, none⟩ = some (.int .u8 ((en.toNat : Nat) : Int)) ∧ Below w.heap.size w W ∧ b + 1 ≤ W.heap.size) => HG.out W (HLd.out.go hS.2.1))
          clear hb3 hcell hlt hlt3 HB1 HB3 hc3 HE HC HG
          go_wp2_with fail
          go_region_held3 (fun W => W.cell? ⟨b, 0, none⟩ = some (.int .u8 ((en.toNat : Nat) : Int)) ∧ Below w.heap.size w W ∧ b + 1 ≤ W.heap.size)
            (first | (refine ti_keep hb5 ?_; assumption) | (refine ti_keep (pw_below_drewN (Below.refl _ _) _) ?_; assumption) | (refine ti_keep (Below.drew (Below.refl _ _)) ?_; assumption))
            (first | (go_at_call 31; refine (HG2.out _ (by assumption)).mono ?_; rintro e w5 ⟨rfl, hb5⟩))
          rename_i hh
          have HB4 := Lib.hid hh.2.1
          clear hh
          go_wp2_with fail
          with_reducible refine (HW.out _ (HLd.out.go HB4.out)).mono ?_
          rintro e w5 ⟨rfl, hb5⟩
          have HB5 := Lib.hid (HB4.out.trans (hb5.mono HB4.out.size))
          clear hb5
          go_wp2
          go_ret2
          rw [HL.out]
          exact ⟨by first | rfl | (rw [HK.out]; rfl), HB5.out⟩
      · rw [if_neg h1] at hlab
        have HL := Lib.hid hlab
        have q2 : ((y.toNat : Int) == (en.toNat : Int)) = false := beq_eq_false_iff_ne.2 (fun e => h1 (eye.1 e))
        have q2b : ((y.toNat : Int) != (en.toNat : Int)) = true := by rw [bne, q2]; rfl
        clear hlab hget ht hE eye h1 hen h0 HW HG
        go_enter Tryz.func14, Tryz.ntmps14
        go_wp2_with fail
        refine (HC.out _).mono ?_
        rintro e w1 ⟨rfl, hd⟩
        have hcell : (w1.alloc (.cells #[.int .u8 ((en.toNat : Nat) : Int)] 5 (0, 0))).cell? ⟨w1.heap.size, 0, none⟩ = some (.int .u8 ((en.toNat : Nat) : Int)) := cell_of_one (heap_alloc_new w1 _)
        have hlt : w1.heap.size < (w1.alloc (.cells #[.int .u8 ((en.toNat : Nat) : Int)] 5 (0, 0))).heap.size := by rw [al2_size]; omega
        have HB1 := Lib.hid (hd.below.alloc hd.below.size (.cells #[.int .u8 ((en.toNat : Nat) : Int)] 5 (0, 0)))
        clear hd
        go_wp2_with fail
        obtain ⟨w2, hw2⟩ : ∃ w2, w2 = w1.alloc (.cells #[.int .u8 ((en.toNat : Nat) : Int)] 5 (0, 0)) := ⟨_, rfl⟩
        rw [← hw2] at hcell hlt HB1
        rw [show (w1.alloc (Obj.cells #[Value.int IntKind.u8 ((en.toNat : Nat) : Int)] 5)) = w2 from hw2.symm]
        clear hw2
        obtain ⟨b, hb⟩ : ∃ b, w1.heap.size = b := ⟨_, rfl⟩
        rw [hb] at hcell hlt ⊢
        clear hb
        with_reducible refine (HE.out b w2 hlt hcell).mono ?_
        rintro e w3 ⟨rfl, hb3⟩
        have HB3 := Lib.hid (HB1.out.trans (hb3.mono HB1.out.size))
        have hc3 : w3.cell? ⟨b, 0, none⟩ = some (.int .u8 ((en.toNat : Nat) : Int)) := (hb3.cell (p := ⟨b, 0, none⟩) hlt).trans hcell
        clear hb3 hcell hlt HB1 HE HC
        go_wp2_with fail
        go_quiet (fail)
        go_wp2
        go_ret2
        rw [HL.out]
        exact ⟨rfl, pw_below_drewN HB3.out _⟩
end Go.Proofs.YtjobchgncdgfaaaGreatDoor.PA

namespace Go.Proofs.YtjobchgncdgfaaaGreatDoor.PA
open Go.RowKit Go.Proofs.YtjobchgncdgfaaaGreatDoor.Pl Go.Proofs.YtjobchgncdgfaaaGreatDoorW.PrintWords Go.Proofs.YtjobchgncdgfaaaGreatDoorW.PrintLast Go.Proofs.YtjobchgncdgfaaaGreatDoorW.PrintMore Go.Proofs.YtjobchgncdgfaaaGreatDoor.Pure
set_option linter.unusedVariables false

def link_Label.f (a0 : ByteArray) : Option (ByteArray × Int) := if a0.size ≤ 1048576 then some (B (lab a0.data.toList).1, ((lab a0.data.toList).2 : Int)) else none
theorem link_Label.calls (a0 : ByteArray) (r1 : ByteArray) (r2 : Int) (w : World) (h : link_Label.f a0 = some (r1, r2)) :
    Calls Tryz.prog 10 #[.string a0] w fun e w' => e = .returned (.tuple #[.string r1, .int .i64 r2]) ∧ Below w.heap.size w w' := by
  unfold link_Label.f at h
  split at h
  · rename_i hc
    have h2 := Option.some.inj h
    obtain ⟨rfl, rfl⟩ := Prod.mk.inj h2
    exact lab_walk a0.data.toList (by rw [Array.length_toList]; exact hc) w
  · cases h
def link_Dest.f (a0 : ByteArray) : Option (ByteArray × Int × Bool) := if a0.size ≤ 1048576 then some (B (dst a0.data.toList).1, ((dst a0.data.toList).2.1 : Int), (dst a0.data.toList).2.2) else none
theorem link_Dest.calls (a0 : ByteArray) (r1 : ByteArray) (r2 : Int) (r3 : Bool) (w : World) (hLd : Laid w) (h : link_Dest.f a0 = some (r1, r2, r3)) :
    Calls Tryz.prog 12 #[.string a0] w fun e w' => e = .returned (.tuple #[.string r1, .int .i64 r2, .bool r3]) ∧ Below w.heap.size w w' := by
  unfold link_Dest.f at h
  split at h
  · rename_i hc
    have h2 := Option.some.inj h
    obtain ⟨rfl, h3⟩ := Prod.mk.inj h2
    obtain ⟨rfl, rfl⟩ := Prod.mk.inj h3
    exact dst_walk a0.data.toList (by rw [Array.length_toList]; exact hc) w hLd
  · cases h
def link_Title.f (a0 : ByteArray) : Option (ByteArray × Int) := if a0.size ≤ 1048576 then some (B (ttl a0.data.toList).1, ((ttl a0.data.toList).2 : Int)) else none
theorem link_Title.calls (a0 : ByteArray) (r1 : ByteArray) (r2 : Int) (w : World) (hLd : Laid w) (h : link_Title.f a0 = some (r1, r2)) :
    Calls Tryz.prog 14 #[.string a0] w fun e w' => e = .returned (.tuple #[.string r1, .int .i64 r2]) ∧ Below w.heap.size w w' := by
  unfold link_Title.f at h
  split at h
  · rename_i hc
    have h2 := Option.some.inj h
    obtain ⟨rfl, rfl⟩ := Prod.mk.inj h2
    exact ttl_walk a0.data.toList (by rw [Array.length_toList]; exact hc) w hLd
  · cases h
end Go.Proofs.YtjobchgncdgfaaaGreatDoor.PA
