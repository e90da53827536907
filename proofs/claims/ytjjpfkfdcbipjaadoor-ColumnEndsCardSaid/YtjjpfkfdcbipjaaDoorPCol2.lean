/-
  What the layer's printed functions compute, in plain words. Condition: a line of at most 2^30 bytes, a column of at most 2^30.
-/
import Derived.Test.YtjjpfkfdcbipjaaDoorPCol
import Derived.Test.YtjjpfkfdcbipjaaDoorPAx2
namespace Go.Proofs.YtjjpfkfdcbipjaaDoor.Pl
open Go.RowKit Go.Proofs.YtjjpfkfdcbipjaaDoorW.PrintWords Go.Proofs.YtjjpfkfdcbipjaaDoorW.PrintMore

theorem awake_now : PA.incipitlaw02_awake.f = some true := by decide +kernel
theorem from_nat (c : Nat) (h : c ≤ 1073741824) : fromC (c : Int) = c := by unfold fromC; rw [if_neg (by omega)]; omega
theorem ind_f (l : List UInt8) (c : Nat) (hl : l.length ≤ 1073741824) (hc : c ≤ 1073741824) : PA.column_Indent.f (B l) (c : Int) = some (((ind l c).1 : Int), ((ind l c).2 : Int)) := by
  unfold PA.column_Indent.f
  rw [if_pos (by rw [B_size]; omega), B_data, from_nat c hc]
theorem Sk.zero (l : List UInt8) (c : Nat) : Sk l c 0 l c := ⟨by omega, by omega, rfl, by omega⟩
theorem skip_f (l : List UInt8) (c n : Nat) (hl : l.length ≤ 1073741824) (hc : c ≤ 1073741824) (hn : n ≤ 1073741824) : ∃ (T : List UInt8) (c' : Nat), PA.column_Skip.f (B l) (c : Int) (n : Int) = some (B T, (c' : Int)) ∧ Sk l c n T c' := by
  unfold PA.column_Skip.f
  by_cases h : (n : Int) < 1
  · rw [if_pos h]
    obtain rfl : n = 0 := by omega
    exact ⟨l, c, rfl, Sk.zero l c⟩
  · rw [if_neg h, if_pos (by rw [B_size]; omega), B_data, from_nat c hc, Int.toNat_natCast]
    obtain ⟨T, c', e, hs⟩ := skipF_sk l c n
    exact ⟨T, c', by rw [e], hs⟩
theorem spaces_f (l : List UInt8) (c : Nat) (hl : l.length ≤ 1073741824) (hc : c ≤ 1073741824) : PA.column_Spaces.f (B l) (c : Int) = some (B (List.replicate (ind l c).1 32 ++ l.drop (ind l c).2)) := by
  obtain ⟨h1, h2, h3⟩ := ind_le l c
  unfold PA.column_Spaces.f
  rw [ind_f l c hl hc]
  simp only [Option.bind_some]
  have e : PA.strings_Repeat.f ⟨#[32]⟩ ((ind l c).1 : Int) = some (B (List.replicate (ind l c).1 32)) := by
    unfold PA.strings_Repeat.f
    rw [if_pos (by refine ⟨by omega, by omega, by decide⟩), Int.toNat_natCast, ← PA.repeatL_sp]
    rfl
  rw [e]
  simp only [Option.bind_some]
  rw [if_pos (by omega), if_pos (by rw [B_size]; omega), Int.toNat_natCast, B_from l _ _ (B_size l), if_pos (by rw [B_size, B_size, List.length_replicate, List.length_drop]; omega), B_append]
theorem small_f (n : Int) : ∃ r : Nat, PA.incipitlaw02_small.f n = some (r : Int) ∧ r ≤ 1023 := by
  obtain ⟨r, e, h⟩ := and_mask n 1023 10 (by decide) (by decide)
  exact ⟨r, by unfold PA.incipitlaw02_small.f; rw [← e]; rfl, h⟩
theorem mx_nat (a k : Nat) : mx 0 ((a : Int) - (k : Int)) = ((a - k : Nat) : Int) := by unfold mx; split <;> omega
theorem mn_nat (a k : Nat) : mn (a : Int) (k : Int) = ((min a k : Nat) : Int) := by unfold mn; split <;> omega
end Go.Proofs.YtjjpfkfdcbipjaaDoor.Pl
