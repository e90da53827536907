/-
  The plain law of EntityReads: what its printed function computes is true at every input of the row's form.
-/
import Derived.Test.YtmkoooldekbpaaaDoorPEnt3
namespace Go.Proofs.YtmkoooldekbpaaaDoor.Pure
open Go.RowKit Go.Proofs.YtmkoooldekbpaaaDoorW.PrintWords Go.Proofs.YtmkoooldekbpaaaDoorW.PrintMore Go.Proofs.YtmkoooldekbpaaaDoor.Pl

theorem EntityReads : ∀ (a0 : ByteArray), a0.size ≤ 140737488351232 → ∃ k, PA.incipitlaw04_EntityReads.f k a0 = some true := by
  intro a0 _
  apply Ev.rounds
  obtain ⟨s, rfl⟩ : ∃ s, a0 = B s := ⟨_, (B_eta a0).symm⟩
  unfold PA.incipitlaw04_EntityReads.f
  rw [awake_eq]
  simp only [Option.bind_some]
  by_cases h : ((B s).size : Int) > 500
  · exact Ev.congr (fun k => by rw [if_pos h]) (Ev.now _)
  · have hs : s.length ≤ 500 := by rw [B_size] at h; omega
    rw [read_eq s (by omega)]
    refine Ev.congr (fun k => by rw [if_neg h, Option.bind_some]) (Ev.bind (rread_ev s (by omega)) ?_)
    simp only [if_true]
    exact Ev.congr (fun k => by rw [beq_self_eq_true]) (Ev.now _)
end Go.Proofs.YtmkoooldekbpaaaDoor.Pure
