/-
  The plain law of ColumnSpaces: what its printed function computes is true at every input of the row's form.
-/
import Derived.Test.YtjjpfkfdcbipjaaDoorPCol2
import Derived.Test.YtjjpfkfdcbipjaaDoorPAx3
namespace Go.Proofs.YtjjpfkfdcbipjaaDoor.Pure
open Go.RowKit Go.Proofs.YtjjpfkfdcbipjaaDoorW.PrintWords Go.Proofs.YtjjpfkfdcbipjaaDoorW.PrintMore Go.Proofs.YtjjpfkfdcbipjaaDoor.Pl

theorem csp (l : List UInt8) (a1 : Int) (hl : l.length ≤ 1000) : PA.incipitlaw02_ColumnSpaces.f (B l) a1 = some true := by
  unfold PA.incipitlaw02_ColumnSpaces.f
  rw [awake_now]
  simp only [Option.bind_some]
  rw [if_neg (by rw [B_size]; omega)]
  obtain ⟨c, e1, hc⟩ := small_f a1
  rw [e1]
  simp only [Option.bind_some]
  obtain ⟨g1, g2, g3⟩ := ind_le l c
  have h0 := fun c' => ind_stop l c c'
  rw [ind_f l c (by omega) (by omega)]
  simp only [Option.bind_some]
  rw [spaces_f l c (by omega) (by omega)]
  simp only [Option.bind_some]
  generalize (ind l c).1 = n at *
  generalize (ind l c).2 = k at *
  have e2 : ∀ c', ind (List.replicate n 32 ++ l.drop k) c' = (n, n) := by
    intro c'
    rw [ind_sp, h0]
    rfl
  have hz : (List.replicate n 32 ++ l.drop k).length = n + (l.length - k) := by rw [List.length_append, List.length_replicate, List.length_drop]
  rw [ind_f _ c (by omega) (by omega), e2]
  simp only [Option.bind_some, if_true]
  rw [if_pos (by rw [B_size]; omega), if_pos (by omega), if_pos (by rw [B_size]; omega), if_pos (by omega), Int.toNat_natCast, Int.toNat_natCast, B_from l _ _ (B_size l), B_from _ n _ (B_size _), if_pos (by rw [List.drop_append, List.drop_eq_nil_of_le (by simp), List.length_replicate, Nat.sub_self, List.drop_zero, List.nil_append]),
    show (0 : Int) = ((0 : Nat) : Int) from rfl, spaces_f _ 0 (by omega) (by omega), e2]
  simp only [Option.bind_some]
  rw [List.drop_append, List.drop_eq_nil_of_le (by simp), List.length_replicate, Nat.sub_self, List.drop_zero, List.nil_append]
  simp
theorem ColumnSpaces : ∀ (a0 : ByteArray) (a1 : Int), a0.size ≤ 140737488351232 → (Lit.int .i64 a1).wf = true → PA.incipitlaw02_ColumnSpaces.f a0 a1 = some true := by
  intro a0 a1 _ _
  have hs : a0.data.toList.length = a0.size := by rw [Array.length_toList]; rfl
  by_cases h : (a0.size : Int) > 1000
  · unfold PA.incipitlaw02_ColumnSpaces.f
    rw [awake_now]
    simp only [Option.bind_some]
    rw [if_pos h]
  · exact csp a0.data.toList a1 (by omega)
end Go.Proofs.YtjjpfkfdcbipjaaDoor.Pure
