/-
  The plain law of EntityNames: what its printed function computes is true at every input of the row's form.
-/
import Derived.Test.YtmkoooldekbpaaaDoorPEnt4
import Derived.Test.YtmkoooldekbpaaaDoorPAx5
namespace Go.Proofs.YtmkoooldekbpaaaDoor.Pure
open Go.RowKit Go.Proofs.YtmkoooldekbpaaaDoorW.PrintWords Go.Proofs.YtmkoooldekbpaaaDoorW.PrintMore Go.Proofs.YtmkoooldekbpaaaDoor.Pl Go.Proofs.YtmkoooldekbpaaaDoor.PA

theorem enm_less : ∀ i, 0 < i → i < 183 → Op.bytesLess (enm (i - 1)) (enm i) = true := by
  have h : (List.range 183).all (fun i => decide (i = 0) || Op.bytesLess (enm (i - 1)) (enm i)) = true := by decide +kernel
  intro i h0 hi
  have h2 := List.all_eq_true.1 h i (List.mem_range.2 hi)
  rw [decide_eq_false (by omega), Bool.false_or] at h2
  exact h2
theorem rd_name (i : Nat) (hi : i < 183) : rdOf ByteArray.empty (entL.map fun e => B e.1) (i : Int) = B (enm i) := by
  have hl : i < entL.length := by rw [entL_len]; exact hi
  unfold rdOf
  rw [Int.toNat_natCast, List.getD_eq_getElem?_getD, List.getElem?_map, List.getElem?_eq_getElem hl]
  have e1 : enm i = entL[i].1 := by unfold enm; rw [List.getD_eq_getElem?_getD, List.getElem?_eq_getElem hl]; rfl
  rw [e1]
  rfl
theorem names_l (q : ByteArray × Bool) (nm : ByteArray) (n : Int) : ∀ (d i : Nat), i + d = 183 → Ev (fun k => incipitlaw04_EntityNames.l0 k true rtS q.1 q.2 q.1 q.2 (Go.Utf8.encode n) true (entL.map fun e => B e.1) (i : Int) nm n) true := by
  have hN : ((entL.map fun e => B e.1).length : Int) = 183 := by rw [List.length_map, entL_len]; rfl
  intro d
  induction d with
  | zero =>
    intro i hi
    refine Ev.step (f := fun _ => some true) (fun k => ?_) (Ev.now _)
    simp only [incipitlaw04_EntityNames.l0]
    rw [hN, if_neg (by omega), if_pos trivial, if_pos trivial, if_pos (by simp), if_pos trivial, beq_self_eq_true]
  | succ d ih =>
    intro i hi
    have hil : i < 183 := by omega
    refine Ev.step (fun k => ?_) (ih (i + 1) (by omega))
    simp only [incipitlaw04_EntityNames.l0]
    rw [hN, rtS_len, if_pos (by omega), if_pos (by omega), if_pos (by omega), rd_name i hil, rd_row i hil]
    dsimp only
    rw [if_pos rfl, w64 (x := (i : Int) + 1) (by omega) (by omega)]
    by_cases h0 : 0 < i
    · have e1 : wrap64 ((i : Int) - 1) = ((i - 1 : Nat) : Int) := by rw [w64 (by omega) (by omega)]; omega
      rw [if_pos (by omega), e1, if_pos (by omega), if_pos (by omega), rd_name (i - 1) (by omega), B_toList, B_toList, if_pos (enm_less i h0 hil)]
      rfl
    · rw [if_neg (by omega)]
      rfl
theorem EntityNames : ∀ (a0 : ByteArray) (a1 : Int), a0.size ≤ 140737488351232 → (Lit.int .i64 a1).wf = true → ∃ k, PA.incipitlaw04_EntityNames.f k a0 a1 = some true := by
  intro a0 a1 _ _
  apply Ev.rounds
  obtain ⟨s, rfl⟩ : ∃ s, a0 = B s := ⟨_, (B_eta a0).symm⟩
  unfold PA.incipitlaw04_EntityNames.f
  rw [awake_eq]
  simp only [Option.bind_some]
  by_cases h : ((B s).size : Int) > 500
  · exact Ev.congr (fun k => by rw [if_pos h]) (Ev.now _)
  · obtain ⟨j, hj, hjl⟩ := mask183 a1
    have hnm : entity_Named.f (B (enm j)) = some (nmd (enm j)) := by unfold entity_Named.f; rw [B_data]
    have hbody : Ev (fun k => (incipitref04_Named.f k (B s)).bind fun bt184 => incipitlaw04_EntityNames.l0 k true rtS (nmd s).1 (nmd s).2 bt184.1 bt184.2 (Go.Utf8.encode (enn j)) true (entL.map fun e => B e.1) 0 (B (enm j)) (enn j)) true :=
      Ev.bind (rnamed_ev s) (names_l (nmd s) _ _ 183 0 rfl)
    refine Ev.congr (fun k => ?_) hbody
    rw [if_neg h, show incipitref04_Table.f = some rtS from rfl, Option.bind_some, rtS_len, if_neg (by decide), hj, if_pos (by omega), if_pos (by omega), show entity_Named.f (B s) = some (nmd s) from by unfold entity_Named.f; rw [B_data], Option.bind_some]
    refine congrArg (fun z => Option.bind (incipitref04_Named.f k (B s)) z) ?_
    funext bt184
    rw [rd_row j hjl]
    dsimp only
    rw [hnm, Option.bind_some, show entity_Names.f = some (entL.map fun e => B e.1) from rfl, Option.bind_some, List.length_map, entL_len, if_pos rfl, nmd_hit j hjl]
end Go.Proofs.YtmkoooldekbpaaaDoor.Pure
