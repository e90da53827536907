/-
  The plain law of ColumnLess: what its printed function computes is true at every input of the row's form.
-/
import Derived.Test.YtjjpfkfdcbipjaaDoorPCol2
namespace Go.Proofs.YtjjpfkfdcbipjaaDoor.Pure
open Go.RowKit Go.Proofs.YtjjpfkfdcbipjaaDoorW.PrintWords Go.Proofs.YtjjpfkfdcbipjaaDoorW.PrintMore Go.Proofs.YtjjpfkfdcbipjaaDoor.Pl

theorem cl (l : List UInt8) (a1 a2 : Int) (hl : l.length ≤ 1000) : PA.incipitlaw02_ColumnLess.f (B l) a1 a2 = some true := by
  unfold PA.incipitlaw02_ColumnLess.f
  rw [awake_now]
  simp only [Option.bind_some]
  rw [if_neg (by rw [B_size]; omega)]
  obtain ⟨n, e1, hn⟩ := small_f a2
  obtain ⟨at', e2, hat⟩ := small_f a1
  rw [e1, e2]
  simp only [Option.bind_some]
  obtain ⟨T, c', e3, hs⟩ := skip_f l at' n (by omega) (by omega) (by omega)
  have hc := hs.col
  have hlen := hs.len
  have hw := hs.wide
  have hr := hs.rest
  obtain ⟨g1, g2, g3⟩ := ind_le l at'
  obtain ⟨k1, k2, k3⟩ := ind_le T c'
  rw [ind_f l at' (by omega) (by omega), e3]
  simp only [Option.bind_some]
  rw [ind_f T c' (by omega) (by omega)]
  simp only [Option.bind_some, if_true]
  rw [if_neg (by rw [B_size]; omega), if_neg (by rw [B_size]; omega), w64 (by omega) (by omega), mx_nat, mn_nat, if_pos (by rw [hw]), w64 (by omega) (by omega), if_pos (by omega),
    if_pos (by omega), if_pos (by rw [B_size]; omega), if_pos (by omega), if_pos (by rw [B_size]; omega), Int.toNat_natCast, Int.toNat_natCast, B_from l _ _ (B_size l), B_from T _ _ (B_size T), hr]
  simp
theorem ColumnLess : ∀ (a0 : ByteArray) (a1 : Int) (a2 : Int), a0.size ≤ 140737488351232 → (Lit.int .i64 a1).wf = true → (Lit.int .i64 a2).wf = true → PA.incipitlaw02_ColumnLess.f a0 a1 a2 = some true := by
  intro a0 a1 a2 _ _ _
  have hs : a0.data.toList.length = a0.size := by rw [Array.length_toList]; rfl
  by_cases h : (a0.size : Int) > 1000
  · unfold PA.incipitlaw02_ColumnLess.f
    rw [awake_now]
    simp only [Option.bind_some]
    rw [if_pos h]
  · exact cl a0.data.toList a1 a2 (by omega)
end Go.Proofs.YtjjpfkfdcbipjaaDoor.Pure
