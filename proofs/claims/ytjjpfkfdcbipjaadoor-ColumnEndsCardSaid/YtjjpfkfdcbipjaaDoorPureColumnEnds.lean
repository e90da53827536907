/-
  The plain law of ColumnEnds: what its printed function computes is true at every input of the row's form.
-/
import Derived.Test.YtjjpfkfdcbipjaaDoorPCol2
import Derived.Test.YtjjpfkfdcbipjaaDoorPTrims
namespace Go.Proofs.YtjjpfkfdcbipjaaDoor.Pure
open Go.RowKit Go.Proofs.YtjjpfkfdcbipjaaDoorW.PrintWords Go.Proofs.YtjjpfkfdcbipjaaDoorW.PrintMore Go.Proofs.YtjjpfkfdcbipjaaDoor.Pl

theorem ce (l : List UInt8) (hl : l.length ≤ 1000) : PA.incipitlaw02_ColumnEnds.f (B l) = some true := by
  have h1 := tl_len l
  have h2 := tr_len l
  have e1 : (⟨#[32, 10]⟩ : ByteArray) ++ B l = B ([32, 10] ++ l) := B_append [32, 10] l
  have e2 : B ([32, 10] ++ l) ++ (⟨#[9]⟩ : ByteArray) = B (([32, 10] ++ l) ++ [9]) := B_append _ [9]
  have z1 : ([32, 10] ++ l).length = l.length + 2 := by rw [List.length_append]; simp only [List.length_cons, List.length_nil]; omega
  have z2 : (([32, 10] ++ l) ++ [9]).length = l.length + 3 := by rw [List.length_append, z1]; rfl
  have e3 : tl (tr (([32, 10] ++ l) ++ [9])) = tl (tr l) := by
    rw [tr_suf _ _ (by decide), tl_tr, tl_pre _ _ (by decide), ← tl_tr]
  unfold PA.incipitlaw02_ColumnEnds.f
  rw [awake_now, Option.bind_some, if_neg (by rw [B_size]; omega), if_pos rfl, trimr_f l (by omega), Option.bind_some, triml_f _ (by omega), Option.bind_some, trim_f l (by omega), Option.bind_some, if_pos rfl,
    triml_f l (by omega), Option.bind_some, trimr_f _ (by omega), Option.bind_some, Option.bind_some, if_pos (by rw [tl_tr]), if_pos (by rw [B_size]; omega), e1, if_pos (by rw [B_size]; omega), e2, trim_f _ (by omega), Option.bind_some, Option.bind_some, e3]
  simp
theorem ColumnEnds : ∀ (a0 : ByteArray), a0.size ≤ 140737488351232 → PA.incipitlaw02_ColumnEnds.f a0 = some true := by
  intro a0 _
  have hs : a0.data.toList.length = a0.size := by rw [Array.length_toList]; rfl
  by_cases h : (a0.size : Int) > 1000
  · unfold PA.incipitlaw02_ColumnEnds.f
    rw [awake_now, Option.bind_some, if_pos h]
  · exact ce a0.data.toList (by omega)
end Go.Proofs.YtjjpfkfdcbipjaaDoor.Pure
