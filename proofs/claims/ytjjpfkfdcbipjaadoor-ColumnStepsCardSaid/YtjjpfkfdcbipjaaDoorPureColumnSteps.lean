/-
  The plain law of ColumnSteps: what its printed function computes is true at every input of the row's form.
-/
import Derived.Test.YtjjpfkfdcbipjaaDoorPCol2
namespace Go.Proofs.YtjjpfkfdcbipjaaDoor.Pure
open Go.RowKit Go.Proofs.YtjjpfkfdcbipjaaDoorW.PrintWords Go.Proofs.YtjjpfkfdcbipjaaDoorW.PrintMore Go.Proofs.YtjjpfkfdcbipjaaDoor.Pl

theorem sk_le {l T : List UInt8} {c n c' x y : Nat} (h : Sk l c n T c') (hc : c ≤ x) (hn : n ≤ y) : c' ≤ x + y := by
  rw [h.col]
  exact Nat.add_le_add hc (Nat.le_trans (Nat.min_le_right _ _) hn)
theorem two_min (c a n m : Nat) : c + min a n + min (a - n) m = c + min a (n + m) := by omega
theorem sk_two {l T U V : List UInt8} {c n m c' d e : Nat} (h : Sk l c n T c') (hu : Sk T c' m U d) (hv : Sk l c (n + m) V e) : (ind U d).1 = (ind V e).1 ∧ U.drop (ind U d).2 = V.drop (ind V e).2 ∧ d = e := by
  refine ⟨?_, ?_, ?_⟩
  · rw [hu.wide, hv.wide, h.wide, Nat.sub_sub]
  · rw [hu.rest, hv.rest, h.rest]
  · rw [hu.col, hv.col, h.wide, h.col]
    exact two_min _ _ _ _
theorem cs (l : List UInt8) (a1 a2 a3 : Int) (hl : l.length ≤ 1000) : PA.incipitlaw02_ColumnSteps.f (B l) a1 a2 a3 = some true := by
  unfold PA.incipitlaw02_ColumnSteps.f
  rw [awake_now]
  simp only [Option.bind_some]
  rw [if_neg (by rw [B_size]; omega)]
  obtain ⟨c, e1, hc⟩ := small_f a1
  obtain ⟨n, e2, hn⟩ := small_f a2
  obtain ⟨m, e3, hm⟩ := small_f a3
  rw [e1, Option.bind_some, e2, Option.bind_some]
  obtain ⟨T, c', e4, hs⟩ := skip_f l c n (by omega) (by omega) (by omega)
  have h2 : T.length ≤ 1004 := Nat.le_trans hs.len (by omega)
  have h1 : c' ≤ 2046 := sk_le hs hc hn
  rw [e4, Option.bind_some, e3, Option.bind_some]
  obtain ⟨U, d, e5, hu⟩ := skip_f T c' m (by omega) (by omega) (by omega)
  have g2 : U.length ≤ 1008 := Nat.le_trans hu.len (by omega)
  have g1 : d ≤ 4092 := Nat.le_trans (sk_le hu h1 hm) (by omega)
  rw [e5, Option.bind_some, Option.bind_some, Option.bind_some, w64 (by omega) (by omega), show (n : Int) + (m : Int) = ((n + m : Nat) : Int) from (Int.natCast_add n m).symm]
  obtain ⟨V, e, e6, hv⟩ := skip_f l c (n + m) (by omega) (by omega) (by omega)
  have k2 : V.length ≤ 1004 := Nat.le_trans hv.len (by omega)
  have k1 : e ≤ 4092 := Nat.le_trans (sk_le hv hc (Nat.add_le_add hn hm)) (by omega)
  rw [e6, Option.bind_some, if_pos trivial]
  dsimp only
  rw [spaces_f U d (by omega) (by omega), Option.bind_some, spaces_f V e (by omega) (by omega), Option.bind_some]
  obtain ⟨q1, q2, q3⟩ := sk_two hs hu hv
  rw [q1, q2, if_pos rfl, q3]
  simp
theorem ColumnSteps : ∀ (a0 : ByteArray) (a1 : Int) (a2 : Int) (a3 : Int), a0.size ≤ 140737488351232 → (Lit.int .i64 a1).wf = true → (Lit.int .i64 a2).wf = true → (Lit.int .i64 a3).wf = true → PA.incipitlaw02_ColumnSteps.f a0 a1 a2 a3 = some true := by
  intro a0 a1 a2 a3 _ _ _ _
  have hs : a0.data.toList.length = a0.size := by rw [Array.length_toList]; rfl
  by_cases h : (a0.size : Int) > 1000
  · unfold PA.incipitlaw02_ColumnSteps.f
    rw [awake_now]
    simp only [Option.bind_some]
    rw [if_pos h]
  · exact cs a0.data.toList a1 a2 a3 (by omega)
end Go.Proofs.YtjjpfkfdcbipjaaDoor.Pure
