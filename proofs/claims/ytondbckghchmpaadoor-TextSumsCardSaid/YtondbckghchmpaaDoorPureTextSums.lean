/-
  The plain law of TextSums: its walk's answer is true at every input of the row's form.
-/
import Derived.Test.YtondbckghchmpaaDoorPAxSums2
namespace Go.Proofs.YtondbckghchmpaaDoor.Pure
open Go.RowKit Go.Proofs.YtondbckghchmpaaDoorW.PrintWords Go.Proofs.YtondbckghchmpaaDoor.Pl

theorem okB_ofS (l : List Int) (h : ∀ x ∈ l, (Lit.int .u8 x).wf = true) : okB l = true := by
  unfold okB
  rw [List.all_eq_true]
  intro x hx
  have := h x hx
  simp only [Lit.wf, Bool.and_eq_true, decide_eq_true_eq] at this
  have e1 : IntKind.min .u8 = 0 := by decide
  have e2 : IntKind.max .u8 = 255 := by decide
  rw [e1, e2] at this
  exact decide_eq_true (by omega)
theorem TextSums : ∀ (l0 : List Int) (l1 : List Int), l0.length ≤ 140737488351232 → (∀ x ∈ l0, (Lit.int .u8 x).wf = true) → l1.length ≤ 140737488351232 → (∀ x ∈ l1, (Lit.int .u8 x).wf = true) → PA.incipitlaw01_TextSums.f l0 l1 = some true := by
  intro l0 l1 _ h0 _ h1
  unfold PA.incipitlaw01_TextSums.f
  rw [if_pos ⟨okB_ofS l0 h0, okB_ofS l1 h1⟩]
end Go.Proofs.YtondbckghchmpaaDoor.Pure
