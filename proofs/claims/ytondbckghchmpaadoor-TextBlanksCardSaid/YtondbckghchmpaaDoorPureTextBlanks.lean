/-
  The plain law of TextBlanks: what its printed function computes is true at every input of the row's form.
-/
import Derived.Test.YtondbckghchmpaaDoorPAx4
import Derived.Test.YtondbckghchmpaaDoorPLines3
namespace Go.Proofs.YtondbckghchmpaaDoor.Pure
open Go.RowKit Go.Proofs.YtondbckghchmpaaDoorW.PrintWords Go.Proofs.YtondbckghchmpaaDoorW.PrintMore Go.Proofs.YtondbckghchmpaaDoor.Pl

theorem tb_j1 (x : List UInt8) (hx : x.length ≤ 1000) : Ev (fun k => PA.incipitlaw01_TextBlanks.j1 k (B x) true false) true := by
  refine Ev.step (f := fun k => (PA.text_Lines.f k (B x)).bind fun t206 => (if x.all bl = true then (if (t206.length : Int) = 1 then (if 0 < (t206.length : Int) then (if (rdOf ByteArray.empty t206 0).toList = (B x).toList then (some true) else (if (B x).toList = ([] : List UInt8) then (some ((t206.length : Int) == 0)) else (some false))) else (none)) else (if (B x).toList = ([] : List UInt8) then (some ((t206.length : Int) == 0)) else (some false))) else (some true))) (fun k => ?_) ?_
  · simp only [PA.incipitlaw01_TextBlanks.j1]
    rw [if_neg (by decide), blank_f x (by omega)]
    simp only [Option.bind_some, if_true]
  · refine Ev.bind (lines_f x (by omega)) ?_
    by_cases hb : x.all bl = true
    · have hne : ∀ y ∈ x, y ≠ 10 ∧ y ≠ 13 := by
        intro y hy
        have := List.all_eq_true.1 hb y hy
        simp only [bl, decide_eq_true_eq] at this
        rcases this with e | e <;> subst e <;> decide
      refine Ev.congr (f := fun _ => some true) (fun _ => ?_) (Ev.now true)
      rw [if_pos hb]
      cases hx0 : x with
      | nil =>
        rw [lines_nil, if_neg (by simp), if_pos (by rw [B_toList])]
        rfl
      | cons a t =>
        rw [← hx0]
        have e : lines x = [x] := by
          rw [lines_cons x (by rw [hx0]; simp), brk_none x hne]
          rfl
        rw [e, if_pos (by simp), if_pos (by simp), if_pos]
        have := getD_B (l := [x]) 0 (by simp)
        rw [show (0 : Int) = ((0 : Nat) : Int) from rfl, this]
        rfl
    · refine Ev.congr (f := fun _ => some true) (fun _ => ?_) (Ev.now true)
      rw [if_neg hb]
theorem tb_j0 (x y : List UInt8) (hx : x.length ≤ 1000) (hy : y.length ≤ 1000) : Ev (fun k => PA.incipitlaw01_TextBlanks.j0 k (B x) (B y) true false) true := by
  refine Ev.step (f := fun k => PA.incipitlaw01_TextBlanks.j1 k (B x) true false) (fun k => ?_) (tb_j1 x hx)
  simp only [PA.incipitlaw01_TextBlanks.j0]
  rw [if_neg (by decide), if_pos (by rw [B_size, B_size]; omega), B_append, blank_f _ (by rw [List.length_append]; omega), blank_f x (by omega), blank_f y (by omega)]
  simp only [Option.bind_some]
  rw [List.all_append]
  cases h1 : x.all bl <;> cases h2 : y.all bl <;> simp
theorem TextBlanks : ∀ (a0 : ByteArray) (a1 : ByteArray), a0.size ≤ 140737488351232 → a1.size ≤ 140737488351232 → ∃ k, PA.incipitlaw01_TextBlanks.f k a0 a1 = some true := by
  intro a b _ _
  apply Ev.rounds
  unfold PA.incipitlaw01_TextBlanks.f
  refine Ev.bind awake_ev ?_
  have hsa : a.data.toList.length = a.size := by rw [Array.length_toList]; rfl
  have hsb : b.data.toList.length = b.size := by rw [Array.length_toList]; rfl
  by_cases h1 : (a.size : Int) > 1000
  · refine Ev.step (f := fun _ => some true) (fun k => ?_) (Ev.now true)
    rw [if_pos h1]
    simp only [PA.incipitlaw01_TextBlanks.j0, if_true]
  · by_cases h2 : (b.size : Int) > 1000
    · refine Ev.step (f := fun _ => some true) (fun k => ?_) (Ev.now true)
      rw [if_neg h1, decide_eq_true h2]
      simp only [PA.incipitlaw01_TextBlanks.j0, if_true]
    · refine Ev.congr (fun k => ?_) (tb_j0 a.data.toList b.data.toList (by omega) (by omega))
      rw [if_neg h1, decide_eq_false h2]
      rfl
end Go.Proofs.YtondbckghchmpaaDoor.Pure
