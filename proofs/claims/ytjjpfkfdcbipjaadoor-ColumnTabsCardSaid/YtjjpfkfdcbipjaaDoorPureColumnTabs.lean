/-
  The plain law of ColumnTabs: what its printed function computes is true at every input of the row's form.
-/
import Derived.Test.YtjjpfkfdcbipjaaDoorPCol2
import Derived.Test.YtjjpfkfdcbipjaaDoorPAx3
namespace Go.Proofs.YtjjpfkfdcbipjaaDoor.Pure
open Go.RowKit Go.Proofs.YtjjpfkfdcbipjaaDoorW.PrintWords Go.Proofs.YtjjpfkfdcbipjaaDoorW.PrintMore Go.Proofs.YtjjpfkfdcbipjaaDoor.Pl

theorem wide_tab (c : Nat) : wideB 9 c = 4 - c % 4 := by simp [wideB]
theorem ind_x (c : Nat) : ind [120] c = (0, 0) := by
  have : wideB 120 c = 0 := (wide_zero _ _).2 ⟨by decide, by decide⟩
  unfold ind
  rw [if_pos this]
theorem ind_tabs4 : ∀ (k c : Nat), c % 4 = 0 → ind (List.replicate k 9 ++ [120]) c = (4 * k, k)
  | 0, c, _ => by rw [List.replicate_zero, List.nil_append, ind_x]
  | k + 1, c, h => by
    rw [List.replicate_succ, List.cons_append, ind, wide_tab, if_neg (by omega), ind_tabs4 k (c + (4 - c % 4)) (by omega)]
    exact Prod.ext (by show _ + 4 * k = _; omega) rfl
theorem ind_tabs (k c : Nat) : ind (List.replicate k 9 ++ [120]) c = ((if k > 0 then 4 * k - c % 4 else 0), k) := by
  cases k with
  | zero => rw [List.replicate_zero, List.nil_append, ind_x, if_neg (by omega)]
  | succ k =>
    rw [List.replicate_succ, List.cons_append, ind, wide_tab, if_neg (by omega), ind_tabs4 k (c + (4 - c % 4)) (by omega), if_pos (by omega)]
    exact Prod.ext (by show _ + 4 * k = 4 * (k + 1) - c % 4; omega) rfl
theorem ct_last (k c : Nat) (hk : k ≤ 63) (hc : c ≤ 1023) (j : Nat) : PA.incipitlaw02_ColumnTabs.l0 (j + 1) true (k : Int) (c : Int) (B (List.replicate k 9)) (k : Int) = some true := by
  have e1 : B (List.replicate k 9) ++ (⟨#[120]⟩ : ByteArray) = B (List.replicate k 9 ++ [120]) := B_append _ [120]
  have hz : (List.replicate k (9 : UInt8) ++ [120]).length = k + 1 := by rw [List.length_append, List.length_replicate]; rfl
  have e2 := ind_f (List.replicate k 9 ++ [120]) c (by omega) (by omega)
  rw [ind_tabs] at e2
  simp only [PA.incipitlaw02_ColumnTabs.l0]
  by_cases h : k > 0
  · rw [if_pos h] at e2
    rw [if_neg (by omega), if_pos (by rw [B_size, List.length_replicate]; omega), e1, e2, Option.bind_some]
    dsimp only
    rw [if_pos (by omega), if_pos trivial]
    have t1 : Int.tmod (c : Int) 4 = ((c % 4 : Nat) : Int) := by rw [Int.tmod_eq_emod_of_nonneg (by omega)]; omega
    have t2 : wrap64 ((c : Int) + ((4 * k - c % 4 : Nat) : Int)) = ((c + (4 * k - c % 4) : Nat) : Int) := by rw [w64 (by omega) (by omega)]; omega
    have t3 : Int.tmod ((c + (4 * k - c % 4) : Nat) : Int) 4 = 0 := by rw [Int.tmod_eq_emod_of_nonneg (by omega)]; omega
    have t4 : wrap64 (4 * (k : Int)) = 4 * (k : Int) := w64 (by omega) (by omega)
    rw [t1, t2, t3, t4, w64 (by omega) (by omega), if_pos (by omega), if_pos rfl]
    rfl
  · obtain rfl : k = 0 := by omega
    rw [if_neg (by omega)] at e2
    have t5 : wrap64 ((c : Int) + ((0 : Nat) : Int)) = (c : Int) := by rw [w64 (by omega) (by omega)]; omega
    rw [if_neg (by omega), if_pos (by rw [B_size, List.length_replicate]; omega), e1, e2, Option.bind_some]
    dsimp only
    rw [if_neg (by omega), if_pos trivial, if_pos (show ((0 : Nat) : Int) = 0 from rfl), if_pos (show ((0 : Nat) : Int) = ((0 : Nat) : Int) from rfl), t5]
    simp
theorem ct_loop (k c : Nat) (hk : k ≤ 63) (hc : c ≤ 1023) (j : Nat) : ∀ m i : Nat, i + m = k → PA.incipitlaw02_ColumnTabs.l0 (j + m + 1) true (k : Int) (c : Int) (B (List.replicate i 9)) (i : Int) = some true
  | 0, i, h => by
    obtain rfl : i = k := by omega
    exact ct_last i c hk hc j
  | m + 1, i, h => by
    have e1 : B (List.replicate i 9) ++ (⟨#[9]⟩ : ByteArray) = B (List.replicate (i + 1) 9) := by
      rw [List.replicate_succ']
      exact B_append _ [9]
    have := ct_loop k c hk hc j m (i + 1) (by omega)
    show PA.incipitlaw02_ColumnTabs.l0 (j + m + 1 + 1) true (k : Int) (c : Int) (B (List.replicate i 9)) (i : Int) = some true
    rw [PA.incipitlaw02_ColumnTabs.l0, if_pos (by omega), if_pos (by rw [B_size, List.length_replicate]; omega), e1, w64 (by omega) (by omega), show (i : Int) + 1 = ((i + 1 : Nat) : Int) from rfl]
    exact this
theorem ColumnTabs : ∀ (a0 : Int) (a1 : Int), (Lit.int .i64 a0).wf = true → (Lit.int .i64 a1).wf = true → ∃ k, PA.incipitlaw02_ColumnTabs.f k a0 a1 = some true := by
  intro a0 a1 _ _
  obtain ⟨c, e1, hc⟩ := small_f a1
  obtain ⟨k, e2, hk⟩ := and_mask a0 63 6 (by decide) (by decide)
  refine ⟨0 + k + 1, ?_⟩
  unfold PA.incipitlaw02_ColumnTabs.f
  rw [awake_now, Option.bind_some, e1, Option.bind_some, show Go.bits .and .i64 a0 63 = (k : Int) from e2]
  exact ct_loop k c hk hc 0 k 0 (by omega)
end Go.Proofs.YtjjpfkfdcbipjaaDoor.Pure
