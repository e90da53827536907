/-
  The contract of entity.Named. No condition.
-/
import Derived.Test.YtinpchebcnkckaaGreatDoorGEntTab
import Derived.Test.YtinpchebcnkckaaGreatDoorGBin
namespace Go.Proofs.YtinpchebcnkckaaGreatDoor.PA
open Go.RowKit Go.Proofs.YtinpchebcnkckaaGreatDoor.Pl Go.Proofs.YtinpchebcnkckaaGreatDoorW.PrintWords Go.Proofs.YtinpchebcnkckaaGreatDoorW.PrintLast Go.Proofs.YtinpchebcnkckaaGreatDoorW.PrintMore
set_option linter.unusedVariables false

theorem flat2 {α β : Type} (f g : α → β) : ∀ (l : List α) (k : Nat), (l.flatMap fun e => [f e, g e])[k * 2]? = (l[k]?).map f ∧ (l.flatMap fun e => [f e, g e])[k * 2 + 1]? = (l[k]?).map g
  | [], k => by simp
  | x :: l, 0 => by simp
  | x :: l, k + 1 => by
    have ih := flat2 f g l k
    rw [show (k + 1) * 2 = k * 2 + 2 by omega, show k * 2 + 2 + 1 = (k * 2 + 1) + 2 by omega]
    simp only [List.flatMap_cons, List.cons_append, List.nil_append, List.getElem?_cons_succ]
    exact ih
theorem ent_at {b : Nat} {w : World} {t : TypeId} {fr : Nat × Nat} (h : w.heap[b]? = some (.cells entCells t fr)) : EntAt b w := by
  intro k hk
  have hl : k < entL.length := by rw [entL_len]; exact hk
  have h2 := flat2 (fun e : List UInt8 × Nat => Value.string (B e.1)) (fun e => Value.int .i32 (e.2 : Int)) entL k
  rw [List.getElem?_eq_getElem hl] at h2
  have e1 : enm k = entL[k].1 := by unfold enm; rw [List.getD_eq_getElem?_getD, List.getElem?_eq_getElem hl]; rfl
  have e2 : enn k = ((entL[k].2 : Nat) : Int) := by unfold enn; rw [List.getD_eq_getElem?_getD, List.getElem?_eq_getElem hl]; rfl
  rw [e1, e2]
  constructor
  · rw [cell_of_row w b _ entCells t fr h]
    unfold entCells
    rw [List.getElem?_toArray]
    exact h2.1
  · rw [cell_of_row w b _ entCells t fr h]
    unfold entCells
    rw [List.getElem?_toArray]
    exact h2.2
theorem ret_sb {a a' : ByteArray} {b b' : Bool} (h1 : a' = a) (h2 : b' = b) : Ending.returned (.tuple #[.string a, .bool b]) = Ending.returned (.tuple #[.string a', .bool b']) := by rw [h1, h2]
/-- The character of a name. -/
def nmd (t : List UInt8) : ByteArray × Bool := if bsr t 183 0 183 < 183 ∧ enm (bsr t 183 0 183) = t then (Go.Utf8.encode (enn (bsr t 183 0 183)), true) else (⟨#[]⟩, false)
set_option maxHeartbeats 4000000 in
set_option maxRecDepth 100000 in
theorem named_walk (t : List UInt8) (w : World) : Calls Tryz.prog 50 #[.string (B t)] w fun e w' => e = .returned (.tuple #[.string (nmd t).1, .bool (nmd t).2]) ∧ Below w.heap.size w w' := by
  have HT := Lib.hid (table_walk w)
  obtain ⟨⟨q1, q2⟩, hq⟩ : ∃ q, nmd t = q := ⟨_, rfl⟩
  rw [hq]
  have HQ := Lib.hid hq
  clear hq
  go_enter Tryz.func50, Tryz.ntmps50
  go_wp2_with fail
  refine HT.out.mono ?_
  rintro e w1 ⟨rfl, hb1⟩
  have hg := setRow_heap (w1.alloc (.cells Tryz.zeroCells101 101)) w1.heap.size Tryz.zeroCells101 entCells 101 (0, 0) (World.alloc_heap_new w1 _)
  have hB := hb1.trans (below_setRow ((Below.refl _ w1).alloc (Nat.le_refl _) (.cells Tryz.zeroCells101 101)) (Nat.le_refl _) entCells |>.mono hb1.size)
  have hz : ((w1.alloc (.cells Tryz.zeroCells101 101)).setRow w1.heap.size entCells).heap.size = w1.heap.size + 1 := by rw [setRow_size, World.size_alloc]
  go_wp2_with (refine wpList_store_row rfl _ _ _ rfl w1.heap.size entCells rfl rfl 101 Tryz.zeroCells101 (World.alloc_heap_new w1 _) (tab_info.trans (congrArg some tab_len.symm)) (tab_zero.trans tab_len.symm) tab_one ?_; generalize ((w1.alloc (.cells Tryz.zeroCells101 101)).setRow w1.heap.size entCells) = W2 at hg hB hz ⊢)
  refine (bsearch_any w1.heap.size t W2 (ent_at hg) (by omega)).mono ?_
  rintro e w3 ⟨rfl, hb3⟩
  have hE3 := (ent_at hg).go hb3 (by omega)
  have HB := Lib.hid (hB.trans (hb3.mono hB.size))
  have hnm : (q1, q2) = if bsr t 183 0 183 < 183 ∧ enm (bsr t 183 0 183) = t then (Go.Utf8.encode (enn (bsr t 183 0 183)), true) else (⟨#[]⟩, false) := HQ.out.symm
  clear hg hB hb3 hz hb1
  generalize bsr t 183 0 183 = R at hnm ⊢
  by_cases hc : R < 183 ∧ enm R = t
  · rw [if_pos hc] at hnm
    rw [decide_eq_true hc]
    have HN := Lib.hid (Prod.mk.inj hnm)
    have hEk := hE3 R hc.1
    have h183 := hc.1
    have hd1 : decide (R < 183) = true := decide_eq_true hc.1
    clear hnm hc hE3
    go_wp2
    go_ret2
    exact ⟨ret_sb HN.out.1 HN.out.2, HB.out⟩
  · rw [if_neg hc] at hnm
    rw [decide_eq_false hc]
    have HN := Lib.hid (Prod.mk.inj hnm)
    clear hnm hc hE3
    go_wp2
    go_ret2
    exact ⟨ret_sb HN.out.1 HN.out.2, HB.out⟩
def entity_Named.f (a0 : ByteArray) : Option (ByteArray × Bool) := some (nmd a0.data.toList)
theorem entity_Named.calls (a0 : ByteArray) (r1 : ByteArray) (r2 : Bool) (w : World) (h : entity_Named.f a0 = some (r1, r2)) :
    Calls Tryz.prog 50 #[.string a0] w fun e w' => e = .returned (.tuple #[.string r1, .bool r2]) ∧ Below w.heap.size w w' := by
  unfold entity_Named.f at h
  have h2 := named_walk a0.data.toList w
  rw [Option.some.inj h, B_eta] at h2
  exact h2
end Go.Proofs.YtinpchebcnkckaaGreatDoor.PA
