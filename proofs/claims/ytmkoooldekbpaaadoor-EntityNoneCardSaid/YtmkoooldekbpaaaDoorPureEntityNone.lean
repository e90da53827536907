/-
  The plain law of EntityNone: what its printed function computes is true at every input of the row's form.
-/
import Derived.Test.YtmkoooldekbpaaaDoorPEnt1
import Derived.Test.YtmkoooldekbpaaaDoorPAx5
namespace Go.Proofs.YtmkoooldekbpaaaDoor.Pure
open Go.RowKit Go.Proofs.YtmkoooldekbpaaaDoorW.PrintWords Go.Proofs.YtmkoooldekbpaaaDoorW.PrintMore Go.Proofs.YtmkoooldekbpaaaDoor.Pl

theorem rdE_none38 (s : List UInt8) (h : (38 : UInt8) ∉ s) : rdE s = (⟨#[]⟩, 0) := by
  cases s with
  | nil => rfl
  | cons x t => rw [rdE, if_neg (fun e => h (by rw [e]; simp))]
theorem rdE_none59 (s : List UInt8) (h : (59 : UInt8) ∉ s) : rdE s = (⟨#[]⟩, 0) := by
  cases s with
  | nil => rfl
  | cons x t =>
    rw [rdE]
    split
    · rw [if_neg (fun e => h (by rw [List.mem_cons]; exact .inr e))]
    · rfl
theorem rdE_le (s : List UInt8) : (rdE s).2 ≤ (s.length : Int) := by
  cases s with
  | nil => decide
  | cons x t =>
    rw [rdE]
    split
    · split
      · rename_i h
        have := upto_lt t h
        split
        · simp only [List.length_cons]; omega
        · simp only [List.length_cons]; omega
      · simp only [List.length_cons]; omega
    · simp only [List.length_cons]; omega
theorem en_l (s : List UInt8) (hs : s.length ≤ 500) : ∀ (d i : Nat), i + d = s.length → Ev (fun k => PA.incipitlaw04_EntityNone.l0 k (B s) true (decide ((38 : UInt8) ∈ s.take i)) (decide ((59 : UInt8) ∈ s.take i)) (i : Int)) true := by
  intro d
  induction d with
  | zero =>
    intro i hi
    rw [List.take_of_length_le (by omega)]
    have hle := rdE_le s
    have hd : decide ((rdE s).2 ≤ ((B s).size : Int)) = true := decide_eq_true (by rw [B_size]; exact hle)
    refine Ev.step (f := fun _ => some true) (fun k => ?_) (Ev.now _)
    simp only [PA.incipitlaw04_EntityNone.l0]
    rw [if_neg (by rw [B_size]; omega), read_eq s (by omega), Option.bind_some, if_pos trivial, hd]
    by_cases h1 : (38 : UInt8) ∈ s
    · rw [decide_eq_true h1, if_pos rfl]
      by_cases h2 : (59 : UInt8) ∈ s
      · rw [decide_eq_true h2, if_pos rfl]
      · rw [decide_eq_false h2, if_neg (by decide), rdE_none59 s h2]
        decide +kernel
    · rw [decide_eq_false h1, if_neg (by decide), rdE_none38 s h1]
      decide +kernel
  | succ d ih =>
    intro i hi
    have hil : i < s.length := by omega
    have h38 : ((s[i].toNat : Int) = 38) ↔ s[i] = 38 := u8_eq _ 38 (by omega)
    have h59 : ((s[i].toNat : Int) = 59) ↔ s[i] = 59 := u8_eq _ 59 (by omega)
    have e38 : decide ((38 : UInt8) ∈ s.take (i + 1)) = (decide ((38 : UInt8) ∈ s.take i) || ((s[i].toNat : Int) == 38)) := by
      rw [List.take_succ_eq_append_getElem hil]
      by_cases h : s[i] = 38
      · rw [h]; simp
      · rw [beq_eq_false_iff_ne.2 (fun e => h (h38.1 e)), Bool.or_false, decide_eq_decide, List.mem_append, List.mem_singleton]
        exact ⟨fun e => e.resolve_right (fun e => h e.symm), .inl⟩
    have e59 : decide ((59 : UInt8) ∈ s.take (i + 1)) = (decide ((59 : UInt8) ∈ s.take i) || ((s[i].toNat : Int) == 59)) := by
      rw [List.take_succ_eq_append_getElem hil]
      by_cases h : s[i] = 59
      · rw [h]; simp
      · rw [beq_eq_false_iff_ne.2 (fun e => h (h59.1 e)), Bool.or_false, decide_eq_decide, List.mem_append, List.mem_singleton]
        exact ⟨fun e => e.resolve_right (fun e => h e.symm), .inl⟩
    have hi2 := ih (i + 1) (by omega)
    rw [e38, e59] at hi2
    refine Ev.step (fun k => ?_) hi2
    simp only [PA.incipitlaw04_EntityNone.l0]
    rw [if_pos (by rw [B_size]; omega), B_bt s i hil, w64 (by omega) (by omega)]
    cases decide ((38 : UInt8) ∈ s.take i)
    · rw [if_neg (by decide), if_pos (by omega)]
      cases decide ((59 : UInt8) ∈ s.take i)
      · rw [if_neg (by decide)]
        rfl
      · rw [if_pos rfl]
        rfl
    · rw [if_pos rfl]
      cases decide ((59 : UInt8) ∈ s.take i)
      · rw [if_neg (by decide), if_pos (by omega)]
        rfl
      · rw [if_pos rfl]
        rfl
theorem EntityNone : ∀ (a0 : ByteArray), a0.size ≤ 140737488351232 → ∃ k, PA.incipitlaw04_EntityNone.f k a0 = some true := by
  intro a0 _
  apply Ev.rounds
  obtain ⟨s, rfl⟩ : ∃ s, a0 = B s := ⟨_, (B_eta a0).symm⟩
  unfold PA.incipitlaw04_EntityNone.f
  rw [awake_eq]
  simp only [Option.bind_some]
  by_cases h : ((B s).size : Int) > 500
  · exact Ev.congr (fun k => by rw [if_pos h]) (Ev.now _)
  · have hs : s.length ≤ 500 := by rw [B_size] at h; omega
    refine Ev.congr (fun k => ?_) (en_l s hs s.length 0 (Nat.zero_add _))
    rw [if_neg h]
    rfl
end Go.Proofs.YtmkoooldekbpaaaDoor.Pure
