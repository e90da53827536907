/-
  The contracts of entity.table and of the reference's Table: the names and their numbers. No condition.
-/
import Derived.Test.YtinpchebcnkckaaGreatDoorEntTab
import Derived.Test.YtinpchebcnkckaaGreatDoorPAx0
import Derived.WalkKit
import Derived.Laws.Tables
import Derived.Laws.Rows
import Derived.Laws.CopyOwn
import Derived.RangeFuncRecord
import Derived.KernelRfl
namespace Go.Proofs.YtinpchebcnkckaaGreatDoor.PA
open Go.RowKit Go.Proofs.YtinpchebcnkckaaGreatDoor.Pl Go.Proofs.YtinpchebcnkckaaGreatDoorW.PrintWords Go.Proofs.YtinpchebcnkckaaGreatDoorW.PrintLast Go.Proofs.YtinpchebcnkckaaGreatDoorW.PrintMore
set_option linter.unusedVariables false

/-- Composite literals, one behind the other. -/
def bldAll (P : Program) : List Oper → Act → Option Act
  | [], a => some a
  | o :: r, a => match o.guard, o.op with
    | none, .build t parts => match P.built t (parts.map fun (i, x) => (i, a.eval x)).toList with
      | some c => bldAll P r (a.put o.dst (.agg c))
      | none => none
    | _, _ => none
theorem wpList_bldAll {P : Program} {ops : Array Oper} {Q : Exit → Act → World → Prop} {w : World} : ∀ (l r : List Oper) (a a' : Act), bldAll P l a = some a' → wpList P ops Q r a' w → wpList P ops Q (l ++ r) a w
  | [], r, a, a', h, hr => by
    obtain rfl := Option.some.inj h
    exact hr
  | o :: l, r, a, a', h, hr => by
    unfold bldAll at h
    split at h
    · rename_i t parts hg ho
      split at h
      · rename_i c hc
        refine wpList_build hg t parts ho (by rw [hc]; rfl) ?_
        rw [hc]
        exact wpList_bldAll l r _ a' h hr
      · cases h
    · cases h
/-- The table's cells. -/
noncomputable def entCells : Array Value := (entL.flatMap fun e => [Value.string (B e.1), Value.int .i32 (e.2 : Int)]).toArray
noncomputable def tabOps : Array Oper := match Tryz.f62.body with
  | some (.seq _ (.seq (.region _ o _) _)) => o
  | _ => #[]
def tabAct (b : Nat) : Act := { tmps := #[Value.pointer (some ⟨b, 0, none⟩)] ++ Array.replicate 184 undef, defers := [] }
theorem tab_built (b : Nat) : (bldAll Tryz.prog (tabOps.toList.take 184) (tabAct b)).map (fun a => (a.eval (.tmp 0), a.eval (.tmp 184), a.defers)) = some (.pointer (some ⟨b, 0, none⟩), .agg entCells, []) := by kernel_rfl
theorem tab_ops : ∃ o : Oper, tabOps.toList.drop 184 = [o] ∧ o.dst = none ∧ o.guard = none ∧ o.op = .store 101 (.tmp 0) (.tmp 184) := ⟨(tabOps.toList.drop 184).headD { dst := none, op := .store 101 (.tmp 0) (.tmp 184), type := 0, pos := "", after := #[], guard := none }, by kernel_rfl, by kernel_rfl, by kernel_rfl, by kernel_rfl⟩
theorem tab_body : Tryz.f62.body = some (.seq (.region 0 #[{ dst := some 0, op := .alloc 101, type := 0, pos := "table.go:10", after := #[], guard := none }] false) (.seq (.region 1 tabOps false) .ret)) := by kernel_rfl
theorem tab_len : entCells.size = 366 := by kernel_rfl
theorem tab_one : entCells.all (·.oneCell') = true := by kernel_rfl
theorem tab_zero : Tryz.zeroCells101.size = 366 := by kernel_rfl
theorem tab_info : (Tryz.prog.info? 101).map (·.size) = some 366 := by kernel_rfl
set_option maxRecDepth 100000 in
set_option maxHeartbeats 4000000 in
theorem table_walk (w : World) : Calls Tryz.prog 62 #[] w fun e w' => e = .returned (.agg entCells) ∧ Below w.heap.size w w' := by
  refine calls_of_wp Tryz.func62 tab_body ?_
  have htm : (#[] : Array Value) ++ Array.replicate ((Tryz.f62).ntmps - (#[] : Array Value).size) undef = Array.replicate 185 undef := by kernel_rfl
  rw [htm]
  have e1 : ∀ b : Nat, ({ tmps := (Array.replicate 185 undef).setIfInBounds 0 (.pointer (some ⟨b, 0, none⟩)), defers := [] } : Act) = tabAct b := fun b => by kernel_rfl
  obtain ⟨o, ho, hod, hog, hoo⟩ := tab_ops
  refine wp_seq (wp_region_list (wpList_plain rfl fun K hK => ?_))
  generalize hA : (Array.replicate 185 undef : Array Value) = A at e1 ⊢
  go_simp
  refine hK _ _ (wpList_nil ?_)
  clear hK K
  refine wp_seq (wp_region_list ?_)
  have hsplit : tabOps.toList = tabOps.toList.take 184 ++ [o] := by rw [← ho, List.take_append_drop]
  have hb := tab_built w.heap.size
  cases hq : bldAll Tryz.prog (tabOps.toList.take 184) (tabAct w.heap.size) with
  | none => rw [hq] at hb; cases hb
  | some a' =>
    rw [hq] at hb
    simp only [Option.map_some, Option.some.injEq, Prod.mk.injEq] at hb
    obtain ⟨h1, h2, h3⟩ := hb
    rw [hsplit]
    refine wpList_bldAll _ _ _ _ hq ?_
    refine wpList_store_row hog _ _ _ hoo w.heap.size entCells h1 h2 101 Tryz.zeroCells101 (World.alloc_heap_new w _) (tab_info.trans (congrArg some tab_len.symm)) (tab_zero.trans tab_len.symm) tab_one ?_
    refine wpList_nil (wp_ret ?_)
    rw [hod]
    have hg := setRow_heap (w.alloc (.cells Tryz.zeroCells101 101)) w.heap.size Tryz.zeroCells101 entCells 101 (0, 0) (World.alloc_heap_new w _)
    refine bodyPost_ret (v := .agg entCells) (results_cell_row (fn := Tryz.f62) rfl _ _ w.heap.size 101 entCells (0, 0) _ h1 hg Tryz.underlying101 rfl (tab_info.trans (congrArg some tab_len.symm))) h3 ⟨rfl, ?_⟩
    exact below_setRow ((Below.refl _ w).alloc (Nat.le_refl _) _) (Nat.le_refl _) _
end Go.Proofs.YtinpchebcnkckaaGreatDoor.PA
