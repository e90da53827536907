/-
  The contract of the reference's Table. No condition.
-/
import Derived.Test.YtinpchebcnkckaaGreatDoorGEntTab
import Derived.Great.BuildSlice
namespace Go.Proofs.YtinpchebcnkckaaGreatDoor.PA
open Go.RowKit Go.Proofs.YtinpchebcnkckaaGreatDoor.Pl Go.Proofs.YtinpchebcnkckaaGreatDoorW.PrintWords Go.Proofs.YtinpchebcnkckaaGreatDoorW.PrintLast Go.Proofs.YtinpchebcnkckaaGreatDoorW.PrintMore
set_option linter.unusedVariables false

noncomputable def rtOps : Array Oper := match Tryz.f53.body with
  | some (.seq _ (.seq (.region _ o _) _)) => o
  | _ => #[]
noncomputable def rtO1 : Oper := (rtOps.toList.drop 183).headD { dst := none, op := .store 0 (.tmp 0) (.tmp 0), type := 0, pos := "", after := #[], guard := none }
noncomputable def rtO2 : Oper := (rtOps.toList.drop 184).headD { dst := none, op := .store 0 (.tmp 0) (.tmp 0), type := 0, pos := "", after := #[], guard := none }
noncomputable def rtParts : Array (Nat × Operand) := match rtO1.op with
  | .buildSlice _ _ p => p
  | _ => #[]
def rtAct : Act := { tmps := #[Value.slice none 0 0] ++ Array.replicate 184 undef, defers := [] }
def rtz : Value := .agg #[.string ByteArray.empty, .int .i32 0]
theorem rt_built : (bldAll Tryz.prog (rtOps.toList.take 183) rtAct).map (fun a => (Instr.fill (fun i => some (i * 2, 2)) ((Array.range (183 * 2)).map (rtz.cells[· % rtz.cells.size]!)) (rtParts.map fun (i, x) => (i, a.eval x)).toList, a.defers, a.tmps.size)) = some (some entCells, [], 185) := by kernel_rfl
theorem rt_ops : rtOps.toList.drop 183 = [rtO1, rtO2] := by kernel_rfl
theorem rt_o1 : rtO1.dst = some 184 ∧ rtO1.guard = none ∧ rtO1.op = .buildSlice 79 183 rtParts := ⟨by kernel_rfl, by kernel_rfl, by kernel_rfl⟩
theorem rt_o2 : rtO2.dst = some 0 ∧ rtO2.guard = none ∧ rtO2.op = .assign (.tmp 184) := ⟨by kernel_rfl, by kernel_rfl, by kernel_rfl⟩
theorem rt_body : Tryz.f53.body = some (.seq (.region 0 #[{ dst := some 0, op := .assign (.const (.slice none 0 0)), type := 79, pos := "ref.go:11", after := #[], guard := none }] false) (.seq (.region 1 rtOps false) .ret)) := by kernel_rfl
theorem rt_desc : Tryz.prog.underlying 79 = some (.slice 82) := by kernel_rfl
theorem rt_info : (Tryz.prog.info? 82).map (fun i => (i.zero, i.size)) = some (some rtz, 2) := by kernel_rfl
def rtS : List S82 := entL.map fun e => ⟨B e.1, (e.2 : Int)⟩
theorem rt_reps {R : S82 → List Value → Prop} (h : ∀ x, R x [.string x.f0, .int .i32 x.f1]) : ∀ l : List (List UInt8 × Nat), Reps R 2 (l.map fun e => (⟨B e.1, (e.2 : Int)⟩ : S82)) (l.flatMap fun e => [Value.string (B e.1), Value.int .i32 (e.2 : Int)])
  | [] => ⟨by simp, fun j p hj => by simp at hj⟩
  | e :: l => by
    have ih := rt_reps h l
    refine ⟨by have h1 := ih.1; rw [List.length_map] at h1; simp only [List.flatMap_cons, List.length_append, List.map_cons, List.length_cons, List.length_nil, List.length_map, h1]; omega, fun j p hj => ?_⟩
    cases j with
    | zero =>
      simp at hj
      subst hj
      simpa using h ⟨B e.1, (e.2 : Int)⟩
    | succ j =>
      have h2 := ih.2 j p (by simpa using hj)
      rw [show (j + 1) * 2 = j * 2 + 2 by omega]
      simpa using h2
set_option maxRecDepth 100000 in
set_option maxHeartbeats 4000000 in
theorem rt_walk (w : World) : Calls Tryz.prog 53 #[] w fun e w' => ∃ v0_, e = .returned v0_ ∧ Kd.R k82 82 w' w.heap.size (fun _ => True) v0_ rtS ∧ Below w.heap.size w w' := by
  refine calls_of_wp Tryz.func53 rt_body ?_
  have htm : (#[] : Array Value) ++ Array.replicate ((Tryz.f53).ntmps - (#[] : Array Value).size) undef = Array.replicate 185 undef := by kernel_rfl
  rw [htm]
  have e1 : ({ tmps := (Array.replicate 185 undef).setIfInBounds 0 (.slice none 0 0), defers := [] } : Act) = rtAct := by kernel_rfl
  refine wp_seq (wp_region_list (wpList_plain rfl fun K hK => ?_))
  generalize hA : (Array.replicate 185 undef : Array Value) = A at e1 ⊢
  go_simp
  refine hK _ _ (wpList_nil ?_)
  clear hK K
  refine wp_seq (wp_region_list ?_)
  have hsplit : rtOps.toList = rtOps.toList.take 183 ++ [rtO1, rtO2] := by rw [← rt_ops, List.take_append_drop]
  have hb := rt_built
  cases hq : bldAll Tryz.prog (rtOps.toList.take 183) rtAct with
  | none => rw [hq] at hb; cases hb
  | some a' =>
    rw [hq] at hb
    simp only [Option.map_some, Option.some.injEq, Prod.mk.injEq] at hb
    obtain ⟨h1, h2, h3⟩ := hb
    rw [hsplit]
    refine wpList_bldAll _ _ _ _ hq ?_
    cases hi : Tryz.prog.info? 82 with
    | none => have h := rt_info; rw [hi] at h; cases h
    | some ie =>
      have hri := rt_info
      rw [hi] at hri
      simp only [Option.map_some, Option.some.injEq, Prod.mk.injEq] at hri
      refine wpList_buildSlice rt_o1.2.1 _ _ 183 rtParts rt_o1.2.2 entCells ie rtz rt_desc hi hri.1 (by rw [hri.2]; decide) (by rw [hri.2]; decide) (by rw [hri.2]; exact h1) ?_
      rw [rt_o1.1]
      refine wpList_plain rt_o2.2.1 fun K hK => ?_
      unfold Oper.wp execOp
      simp only [rt_o2.2.2]
      have e2 : (a'.put (some 184) (.slice (some ⟨w.heap.size, 0, none⟩) 183 183)).eval (.tmp 184) = .slice (some ⟨w.heap.size, 0, none⟩) 183 183 := by
        simp [Act.eval, Act.put, h3]
      rw [e2]
      simp only [Oper.upon, Sem.run_pure, rt_o2.1]
      refine hK _ _ (wpList_nil (wp_ret ?_))
      have hln : rtS.length = 183 := by unfold rtS; rw [List.length_map, entL_len]
      have hR : Kd.R k82 82 (w.alloc (Obj.cells entCells 82)) w.heap.size (fun _ => True) (.slice (some ⟨w.heap.size, 0, none⟩) 183 183) rtS := by
        refine ⟨fun _ _ => trivial, entL.flatMap fun e => [Value.string (B e.1), Value.int .i32 (e.2 : Int)], ?_, rt_reps (fun x => k82_mkM _ _ _ x) entL⟩
        have h9 := World.ownsRow_lit (base := w.heap.size) (e := 82) (size := 2) w entCells 183 (Nat.le_refl _) (by unfold maxLen; omega) tab_len
        rw [hln]
        exact (by simpa [entCells] using h9 : World.ownsRow _ w.heap.size 82 2 _ 183 (entL.flatMap fun e => [Value.string (B e.1), Value.int .i32 (e.2 : Int)]))
      refine bodyPost_ret (v := .slice (some ⟨w.heap.size, 0, none⟩) 183 183) ?_ ?_ ⟨_, rfl, hR, (Below.refl _ w).alloc (Nat.le_refl _) _⟩
      · rw [results_tmp (t := 0) rfl]
        simp [Act.put, h3]
      · simpa [Act.put] using h2
def incipitref04_Table.f : Option (List S82) := some rtS
theorem incipitref04_Table.calls (r : List S82) (w : World) (h : incipitref04_Table.f = some r) :
    Calls Tryz.prog 53 #[] w fun e w' => ∃ v0_, e = .returned v0_ ∧ Kd.R k82 82 w' w.heap.size (fun _ => True) v0_ r ∧ Below w.heap.size w w' := by
  obtain rfl := Option.some.inj h
  exact rt_walk w
end Go.Proofs.YtinpchebcnkckaaGreatDoor.PA
