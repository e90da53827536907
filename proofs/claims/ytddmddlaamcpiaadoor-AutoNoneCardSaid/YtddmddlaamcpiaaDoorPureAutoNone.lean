/-
  The plain law of AutoNone: what its printed function computes is true at every input of the row's form.
-/
import Derived.Test.YtddmddlaamcpiaaDoorPAuto5
import Derived.Test.YtddmddlaamcpiaaDoorPAxAutoNone
namespace Go.Proofs.YtddmddlaamcpiaaDoor.Pure
open Go.RowKit Go.Proofs.YtddmddlaamcpiaaDoorW.PrintWords Go.Proofs.YtddmddlaamcpiaaDoorW.PrintMore Go.Proofs.YtddmddlaamcpiaaDoor.Pl

theorem an_l (l : List UInt8) (hl : l.length ≤ 1000) : ∀ (d i : Nat), i + d = l.length → (46 : UInt8) ∉ l.take i → Ev (fun k => PA.incipitlaw17_AutoNone.l0 k (B l) true (i : Int)) true := by
  intro d
  induction d with
  | zero =>
    intro i hi hn
    rw [List.take_of_length_le (by omega)] at hn
    refine Ev.step (f := fun k => (PA.auto_Find.f k (B l)).bind fun t171 => some ((t171.length : Int) == 0)) (fun k => ?_) ?_
    · simp only [PA.incipitlaw17_AutoNone.l0]
      rw [if_neg (by rw [B_size]; omega), if_pos trivial]
    · refine Ev.bind (find_ev l (by omega)) ?_
      rw [adr_none l hn]
      exact Ev.now _
  | succ d ih =>
    intro i hi hn
    have hil : i < l.length := by omega
    have h46 : ((l[i].toNat : Int) = 46) ↔ l[i] = 46 := u8_eq _ 46 (by omega)
    by_cases h : l[i] = 46
    · refine Ev.step (f := fun _ => some true) (fun k => ?_) (Ev.now _)
      simp only [PA.incipitlaw17_AutoNone.l0]
      rw [if_pos (by rw [B_size]; omega), if_pos (by omega), B_bt l i hil, if_pos (h46.2 h)]
    · refine Ev.step (fun k => ?_) (ih (i + 1) (by omega) ?_)
      · simp only [PA.incipitlaw17_AutoNone.l0]
        rw [if_pos (by rw [B_size]; omega), if_pos (by omega), B_bt l i hil, if_neg (fun e => h (h46.1 e)), w64 (by omega) (by omega)]
        rfl
      · rw [List.take_succ_eq_append_getElem hil, List.mem_append, List.mem_singleton]
        rintro (e | e)
        · exact hn e
        · exact h e.symm
theorem AutoNone : ∀ (a0 : ByteArray), a0.size ≤ 140737488351232 → ∃ k, PA.incipitlaw17_AutoNone.f k a0 = some true := by
  intro a0 _
  apply Ev.rounds
  have hs : a0.data.toList.length = a0.size := by rw [Array.length_toList]; rfl
  unfold PA.incipitlaw17_AutoNone.f
  refine Ev.bind awake_ev ?_
  by_cases h : (a0.size : Int) > 1000
  · refine Ev.congr (fun k => ?_) (Ev.now true)
    rw [if_pos h]
  · refine Ev.congr (fun k => ?_) (an_l a0.data.toList (by omega) _ 0 (Nat.zero_add _) (by simp))
    rw [if_neg h]
    rfl
end Go.Proofs.YtddmddlaamcpiaaDoor.Pure
