/-
  The plain law of TextOnce: its walk's answer is true at every input of the row's form.
-/
import Derived.Test.YtondbckghchmpaaDoorPAxOnce
namespace Go.Proofs.YtondbckghchmpaaDoor.Pure
open Go.RowKit Go.Proofs.YtondbckghchmpaaDoorW.PrintWords Go.Proofs.YtondbckghchmpaaDoor.Pl

theorem TextOnce : ∀ (l0 : List Int), l0.length ≤ 140737488351232 → (∀ x ∈ l0, (Lit.int .u8 x).wf = true) → PA.incipitlaw01_TextOnce.f l0 = some true := by
  intro l0 _ h
  unfold PA.incipitlaw01_TextOnce.f
  rw [if_pos]
  unfold okB
  rw [List.all_eq_true]
  intro x hx
  have := h x hx
  simp only [Lit.wf, Bool.and_eq_true, decide_eq_true_eq] at this
  have e1 : IntKind.min .u8 = 0 := by decide
  have e2 : IntKind.max .u8 = 255 := by decide
  rw [e1, e2] at this
  exact decide_eq_true (by omega)
end Go.Proofs.YtondbckghchmpaaDoor.Pure
