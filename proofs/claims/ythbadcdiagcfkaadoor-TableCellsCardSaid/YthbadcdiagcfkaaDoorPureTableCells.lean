/-
  The plain law of TableCells: what its printed function computes is true at every input of the row's form.
-/
import Derived.Test.YthbadcdiagcfkaaDoorPTab2
import Derived.Test.YthbadcdiagcfkaaDoorPAx6
namespace Go.Proofs.YthbadcdiagcfkaaDoor.Pure
open Go.RowKit Go.Proofs.YthbadcdiagcfkaaDoorW.PrintWords Go.Proofs.YthbadcdiagcfkaaDoorW.PrintMore Go.Proofs.YthbadcdiagcfkaaDoor.Pl

theorem TableCells : ∀ (a0 : ByteArray), a0.size ≤ 140737488351232 → ∃ k, PA.incipitlaw15_TableCells.f k a0 = some true := by
  intro a0 _
  apply Ev.rounds
  obtain ⟨s, rfl⟩ : ∃ s, a0 = B s := ⟨_, (B_eta a0).symm⟩
  unfold PA.incipitlaw15_TableCells.f
  refine Ev.bind awake_ev ?_
  by_cases h : ((B s).size : Int) > 1000
  · refine Ev.congr (f := fun _ => some true) (fun k => ?_) (Ev.now _)
    rw [if_pos h]
  · have hs : s.length ≤ 1000 := by rw [B_size] at h; omega
    have hc := cells_len s
    have ha := als_len s
    have hbody : Ev (fun k => (PA.table_Aligns.f k (B s)).bind fun bt223 => ((PA.incipitref15_Aligns.f k (B s)).bind fun bt227 => (PA.table_Cells.f (B s)).bind fun t231 => ((PA.incipitref15_Cells.f k (B s)).bind fun t234 => ((PA.incipitref15_SameRow.f k t231 t234).bind fun t237 => (if t237 = true then ((PA.incipitref15_SameNumbers.f k bt223.1 bt227.1).bind fun t238 => (if t238 = true then (some (bt223.2 == bt227.2)) else (some false))) else (some false)))))) true := by
      refine Ev.bind (aligns_ev s (by omega)) (Ev.bind (raligns_ev s (by omega)) ?_)
      rw [cells_f s (by omega)]
      refine Ev.bind (Ev.now _) (Ev.bind (rcells_ev s (by omega)) (Ev.bind (samerow_ev _ (by rw [List.length_map]; omega)) ?_))
      simp only [if_true]
      refine Ev.bind (samenum_ev _ (by omega)) ?_
      simp only [if_true, beq_self_eq_true]
      exact Ev.now _
    refine Ev.congr (fun k => ?_) hbody
    rw [if_neg h]
    simp only [if_true]
end Go.Proofs.YthbadcdiagcfkaaDoor.Pure
