/-
  The plain law of ColumnTrims: what its printed function computes is true at every input of the row's form.
-/
import Derived.Test.YtjjpfkfdcbipjaaDoorPCol2
import Derived.Test.YtjjpfkfdcbipjaaDoorPTrims
namespace Go.Proofs.YtjjpfkfdcbipjaaDoor.Pure
open Go.RowKit Go.Proofs.YtjjpfkfdcbipjaaDoorW.PrintWords Go.Proofs.YtjjpfkfdcbipjaaDoorW.PrintMore Go.Proofs.YtjjpfkfdcbipjaaDoor.Pl

theorem ct (l : List UInt8) (hl : l.length ≤ 2000) : PA.incipitlaw02_ColumnTrims.f 2001 (B l) = some true := by
  have h1 := tl_len l
  have h2 := tr_len l
  have h3 := tl_len (tr l)
  have k1 : PA.incipitref02_TrimLeft.f 2001 (B l) = some (B (tl l)) := by
    have := reft_l l (2000 - l.length) (by omega)
    rwa [show 2000 - l.length + l.length + 1 = 2001 by omega] at this
  have k2 : PA.incipitref02_TrimRight.f 2001 (B l) = some (B (tr l)) := by
    have := reft_r l.length l (2000 - l.length) rfl (by omega)
    rwa [show 2000 - l.length + l.length + 1 = 2001 by omega] at this
  have k3 : PA.incipitref02_TrimLeft.f 2001 (B (tr l)) = some (B (tl (tr l))) := by
    have := reft_l (tr l) (2000 - (tr l).length) (by omega)
    rwa [show 2000 - (tr l).length + (tr l).length + 1 = 2001 by omega] at this
  have e1 : tl (tr (tl (tr l))) = tl (tr l) := by rw [tl_tr, tl_idem, ← tl_tr, tr_idem]
  unfold PA.incipitlaw02_ColumnTrims.f
  rw [awake_now, Option.bind_some, if_neg (by rw [B_size]; omega), triml_f l (by omega), Option.bind_some, trimr_f l (by omega), Option.bind_some, trim_f l (by omega), Option.bind_some, if_pos rfl, k1, Option.bind_some, if_pos rfl, k2, Option.bind_some, if_pos rfl, Option.bind_some, k3, Option.bind_some, if_pos rfl, trim_f _ (by omega), Option.bind_some, if_pos (by rw [e1]), triml_f _ (by omega), Option.bind_some]
  simp
theorem ColumnTrims : ∀ (a0 : ByteArray), a0.size ≤ 140737488351232 → ∃ k, PA.incipitlaw02_ColumnTrims.f k a0 = some true := by
  intro a0 _
  refine ⟨2001, ?_⟩
  have hs : a0.data.toList.length = a0.size := by rw [Array.length_toList]; rfl
  by_cases h : (a0.size : Int) > 2000
  · unfold PA.incipitlaw02_ColumnTrims.f
    rw [awake_now, Option.bind_some, if_pos h]
  · exact ct a0.data.toList (by omega)
end Go.Proofs.YtjjpfkfdcbipjaaDoor.Pure
