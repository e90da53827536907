/-
  The plain law of EntityEnds: what its printed function computes is true at every input of the row's form.
-/
import Derived.Test.YtmkoooldekbpaaaDoorPEnt4
import Derived.Test.YtmkoooldekbpaaaDoorPAx4
namespace Go.Proofs.YtmkoooldekbpaaaDoor.Pure
open Go.RowKit Go.Proofs.YtmkoooldekbpaaaDoorW.PrintWords Go.Proofs.YtmkoooldekbpaaaDoorW.PrintMore Go.Proofs.YtmkoooldekbpaaaDoor.Pl Go.Proofs.YtmkoooldekbpaaaDoor.PA

theorem ends_j1 (d u m : List UInt8) (hd : (59 : UInt8) ∉ d) (hb : (bdy d).2 = true) (hs : (d ++ 59 :: u).length ≤ 300) (hm : m.length ≤ 300) :
    Ev (fun k => incipitlaw04_EntityEnds.j1 k (B (38 :: (d ++ 59 :: u))) (B m) true (bdy d).1 ((d.length : Int) + 2) false) true := by
  have hlen : (d ++ 59 :: u).length = d.length + u.length + 1 := by rw [List.length_append, List.length_cons]; omega
  have hsz : ((B (38 :: (d ++ 59 :: u))).size : Int) = (d.length : Int) + u.length + 2 := by rw [B_size, List.length_cons, hlen]; omega
  have e1 : (B (38 :: (d ++ 59 :: u))).extract 0 ((d.length : Int) + 2).toNat = B (38 :: (d ++ [59])) := by
    rw [show ((d.length : Int) + 2).toNat = d.length + 1 + 1 by omega, B_to, List.take_succ_cons, List.take_length_add_append]
    rfl
  have e2 : (B (38 :: (d ++ 59 :: u))).extract 0 (wrap64 ((d.length : Int) + 2 - 1)).toNat = B (38 :: d) := by
    rw [w64 (by omega) (by omega), show ((d.length : Int) + 2 - 1).toNat = d.length + 1 by omega, B_to, List.take_succ_cons]
    congr 1
    congr 1
    simp
  have e3 : wrap64 ((d.length : Int) + 2 - 1) = ((d.length + 1 : Nat) : Int) := by rw [w64 (by omega) (by omega)]; omega
  have r1 : entity_Read.f (B (38 :: (d ++ [59])) ++ B m) = some ((bdy d).1, (d.length : Int) + 2) := by
    rw [B_append, show 38 :: (d ++ [59]) ++ m = 38 :: (d ++ 59 :: m) by simp, read_eq _ (by simp; omega), rdE_at d m hd, if_pos hb]
  have r2 : entity_Read.f (B (38 :: d)) = some (⟨#[]⟩, 0) := by rw [read_eq _ (by simp; omega), rdE_open d hd]
  have r3 : entity_Read.f ((⟨#[120]⟩ : ByteArray) ++ B (38 :: (d ++ 59 :: u))) = some (⟨#[]⟩, 0) := by
    rw [show (⟨#[120]⟩ : ByteArray) = B [120] from rfl, B_append, read_eq _ (by simp; omega)]
    exact congrArg some (rdE_x _)
  have b0 : bt (B (38 :: (d ++ 59 :: u))) 0 = 38 := B_bt (38 :: (d ++ 59 :: u)) 0 (by simp)
  have b1 : bt (B (38 :: (d ++ 59 :: u))) ((d.length + 1 : Nat) : Int) = 59 := by
    rw [B_bt (38 :: (d ++ 59 :: u)) (d.length + 1) (by simp)]
    simp
  have hne := (bdy_ok d hb).2
  refine Ev.step (f := fun _ => some true) (fun k => ?_) (Ev.now _)
  simp only [incipitlaw04_EntityEnds.j1]
  rw [if_neg (by simp), if_pos (by omega), if_pos (by omega), e1, if_pos (by rw [B_size, B_size]; simp; omega), r1, Option.bind_some, e2, e3, if_pos (by omega), if_pos (by omega), r2, Option.bind_some, if_pos (by rw [B_size]; simp; omega), r3, Option.bind_some, if_pos trivial]
  dsimp only
  rw [if_pos rfl, if_pos rfl, if_pos rfl, if_pos rfl, if_neg hne, if_pos (by omega), b0, if_pos rfl, if_pos (by omega), b1]
  rfl
theorem EntityEnds : ∀ (a0 : ByteArray) (a1 : ByteArray), a0.size ≤ 140737488351232 → a1.size ≤ 140737488351232 → ∃ k, PA.incipitlaw04_EntityEnds.f k a0 a1 = some true := by
  intro a0 a1 _ _
  apply Ev.rounds
  obtain ⟨s, rfl⟩ : ∃ s, a0 = B s := ⟨_, (B_eta a0).symm⟩
  obtain ⟨m, rfl⟩ : ∃ m, a1 = B m := ⟨_, (B_eta a1).symm⟩
  unfold PA.incipitlaw04_EntityEnds.f
  rw [awake_eq]
  simp only [Option.bind_some]
  have htrue : Ev (fun k => incipitlaw04_EntityEnds.j0 k (B s) (B m) true true) true := by
    refine Ev.step (f := fun _ => some true) (fun k => ?_) (Ev.now _)
    simp only [incipitlaw04_EntityEnds.j0, if_true]
  by_cases h : ((B s).size : Int) > 300
  · exact Ev.congr (fun k => by rw [if_pos h]) htrue
  · by_cases h2 : ((B m).size : Int) > 300
    · exact Ev.congr (fun k => by rw [if_neg h, decide_eq_true h2]) htrue
    · refine Ev.congr (f := fun k => incipitlaw04_EntityEnds.j0 k (B s) (B m) true false) (fun k => by rw [if_neg h, decide_eq_false h2]) ?_
      rw [B_size] at h h2
      rcases rdE_cases s with h0 | ⟨d, u, rfl, hd, hb, hr⟩
      · refine Ev.step (f := fun _ => some true) (fun k => ?_) (Ev.now _)
        simp only [incipitlaw04_EntityEnds.j0]
        rw [if_neg (by simp), read_eq s (by omega), h0, Option.bind_some, if_pos rfl, if_pos trivial]
        decide +kernel
      · rw [List.length_cons] at h
        have hok := bdy_ok d hb
        have hlen : (d ++ 59 :: u).length = d.length + u.length + 1 := by rw [List.length_append, List.length_cons]; omega
        refine Ev.step (fun k => ?_) (ends_j1 d u m hd hb (by omega) (by omega))
        simp only [incipitlaw04_EntityEnds.j0]
        rw [if_neg (by simp), read_eq _ (by rw [List.length_cons]; omega), hr, Option.bind_some]
        simp only []
        rw [if_neg (by omega), if_neg (by omega), decide_eq_false (by rw [B_size, List.length_cons, hlen]; omega)]
end Go.Proofs.YtmkoooldekbpaaaDoor.Pure
