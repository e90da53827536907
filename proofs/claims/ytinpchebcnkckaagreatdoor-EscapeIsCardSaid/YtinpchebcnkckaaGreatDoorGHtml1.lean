/-
  strings.NewReplacer at the four signs of HTML: a new record that holds the eight texts. No condition.
-/
import Derived.Test.YtinpchebcnkckaaGreatDoorProg
import Derived.WalkKit
import Derived.WalkLawsBesides
import Derived.BigCall
import Derived.Laws.Append
import Derived.Laws.NewBlocks
namespace Go.Proofs.YtinpchebcnkckaaGreatDoor.PA
open Go.RowKit
set_option linter.unusedVariables false

/-- An append whose run is known. -/
theorem met_append {P : Program} {w : World} {ops : Array Oper} {rest : List Oper} {o : Oper} {a : Act} {Q : Exit → Act → World → Prop} {x y : Operand} {t : TypeId} {w' : World} {u v v' : Value}
    (hr : (Builtin.append_ #[t, t] o.type #[u, v]).run P w = .ok v' w') (hgd : o.guard = none) (ho : o.op = .call { callee := .builtin .append, args := #[x, y], argTypes := #[t, t] }) (hx : a.eval x = u) (hy : a.eval y = v)
    (h : wpList P ops Q rest (a.put o.dst v') w') : wpList P ops Q (o :: rest) a w := by
  refine wpList_plain hgd fun K hK => ?_
  unfold Oper.wp execOp
  simp only [ho, resolve, invoke, builtin, Sem.run_bind, Sem.run_pure, Result.andThen_ok, List.map_toArray, List.map_cons, List.map_nil, hx, hy, hr]
  exact hK _ _ h
/-- A copy whose run is known. -/
theorem met_copy {P : Program} {w : World} {ops : Array Oper} {rest : List Oper} {o : Oper} {a : Act} {Q : Exit → Act → World → Prop} {x y : Operand} {t t2 : TypeId} {w' : World} {u v v' : Value}
    (hr : (Builtin.copy_ #[t, t2] o.type #[u, v]).run P w = .ok v' w') (hgd : o.guard = none) (ho : o.op = .call { callee := .builtin .copy, args := #[x, y], argTypes := #[t, t2] }) (hx : a.eval x = u) (hy : a.eval y = v)
    (h : wpList P ops Q rest (a.put o.dst v') w') : wpList P ops Q (o :: rest) a w := by
  refine wpList_plain hgd fun K hK => ?_
  unfold Oper.wp execOp
  simp only [ho, resolve, invoke, builtin, Sem.run_bind, Sem.run_pure, Result.andThen_ok, List.map_toArray, List.map_cons, List.map_nil, hx, hy, hr]
  exact hK _ _ h
theorem hid0 {p : Prop} (h : p) : Hid p := h
/-- The eight texts. -/
def pats : List ByteArray := [⟨#[38]⟩, ⟨#[38, 97, 109, 112, 59]⟩, ⟨#[60]⟩, ⟨#[38, 108, 116, 59]⟩, ⟨#[62]⟩, ⟨#[38, 103, 116, 59]⟩, ⟨#[34]⟩, ⟨#[38, 113, 117, 111, 116, 59]⟩]
/-- Eight texts lie in a row. -/
def PatsAt (g : Nat) (w : World) : Prop := g < w.heap.size ∧ ∀ j, j < 8 → w.cell? ⟨g, j, none⟩ = some (.string (pats.getD j ByteArray.empty))
/-- A replacer's record, not yet built. -/
structure RepNew (B b : Nat) (w : World) : Prop where
  lo : B ≤ b
  lt : b < w.heap.size
  c0 : w.cell? ⟨b, 0, none⟩ = some (.int .u32 0)
  c1 : w.cell? ⟨b, 1, none⟩ = some (.int .i32 0)
  c2 : w.cell? ⟨b, 2, none⟩ = some (.int .u32 0)
  c3 : w.cell? ⟨b, 3, none⟩ = some .nilIface
  c4 : ∃ g c, w.cell? ⟨b, 4, none⟩ = some (.slice (some ⟨g, 0, none⟩) 8 c) ∧ 8 ≤ c ∧ PatsAt g w ∧ g ≠ b ∧ B ≤ g
  fz : ∀ j, w.frozen? ⟨b, j, none⟩ = false
set_option maxHeartbeats 2000000 in
set_option maxRecDepth 100000 in
theorem newRep (g : Nat) (w : World) (hg : PatsAt g w) : Calls Tryz.prog 19 #[.slice (some ⟨g, 0, none⟩) 8 8] w fun e w' => ∃ b, e = .returned (.pointer (some ⟨b, 0, none⟩)) ∧ RepNew w.heap.size b w' ∧ Below w.heap.size w w' := by
  have hadd : ∀ j, (⟨g, 0, none⟩ : Addr).add j = ⟨g, j, none⟩ := by
    intro j
    unfold Addr.add
    split
    · rename_i e; subst e; rfl
    · simp
  obtain ⟨i0, hi, hz0, hz1, hz2⟩ := info_parts (show (Tryz.prog.info? 9).map (fun i => (i.zero, i.size, i.bytes)) = some (some (.string ByteArray.empty), 1, 16) by kernel_rfl)
  have hx := fun W (hW : ∀ j, j < 8 → World.cell? W ⟨g, j, none⟩ = some (.string (pats.getD j ByteArray.empty))) ty => run_append_nil (P := Tryz.prog) (w := W) 45 ty 9 i0 (.string ByteArray.empty) Tryz.underlying45 hi hz0 ⟨g, 0, none⟩ 8 8 (pats.map Value.string) (by rw [hz1]; rfl) (by
    intro j v hv
    rw [hadd]
    have hj : j < 8 := (List.getElem?_eq_some_iff.1 hv).1
    rw [hW j hj, ← hv, List.getElem?_map, List.getD_eq_getElem?_getD, List.getElem?_eq_getElem (show j < pats.length from hj)]
    rfl) (by decide) (by decide) (by rw [hz2]; decide)
  have hap := hx w hg.2
  clear hx
  obtain ⟨C, hC⟩ : ∃ C, grownCap w 8 0 9 = C := ⟨_, rfl⟩
  have hC8 : 8 ≤ C := by rw [← hC]; exact grownCap_ge w 8 0 9
  rw [hC] at hap
  have HG := hid0 hg
  clear hg hC hadd hi hz0 hz1 hz2
  go_enter Tryz.func19, Tryz.ntmps19
  go_wp2_with (refine met_append (hap _) rfl rfl rfl rfl ?_)
  go_ret
  have hz : ∀ j, j < 8 → ((List.map Value.string pats).toArray ++ Builtin.zeroCells #[Value.string ByteArray.empty] (C - 8))[j]? = some (.string (pats.getD j ByteArray.empty)) := by
    intro j hj
    rw [Array.getElem?_append_left (by simp [pats]; exact hj), List.getElem?_toArray, List.getElem?_map, List.getD_eq_getElem?_getD, List.getElem?_eq_getElem (show j < pats.length from hj)]
    rfl
  generalize (List.map Value.string pats).toArray ++ Builtin.zeroCells #[Value.string ByteArray.empty] (C - 8) = cs at hz ⊢
  refine ⟨w.heap.size + 1, rfl, { lo := Nat.le_succ _, lt := by simp, c0 := by simp, c1 := by simp, c2 := by simp, c3 := by simp, c4 := ⟨w.heap.size, C, by simp, hC8, ⟨by simp; omega, fun j hj => ?_⟩, by omega, Nat.le_refl _⟩, fz := fun j => by simp }, ((Below.refl _ w).alloc (Nat.le_refl _) _).alloc (by simp) _ |>.drew⟩
  rw [← hz j hj, World.cell?_drew, World.cell?_alloc_past _ _ _ (by simp)]
  simp
end Go.Proofs.YtinpchebcnkckaaGreatDoor.PA
