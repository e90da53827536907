/-
  The plain law of TextLines: what its printed function computes is true at every input of the row's form.
-/
import Derived.Test.YtondbckghchmpaaDoorPAx3
import Derived.Test.YtondbckghchmpaaDoorPLines2
namespace Go.Proofs.YtondbckghchmpaaDoor.Pure
open Go.RowKit Go.Proofs.YtondbckghchmpaaDoorW.PrintWords Go.Proofs.YtondbckghchmpaaDoorW.PrintMore Go.Proofs.YtondbckghchmpaaDoor.Pl

theorem joinB_len (m : Nat) : ∀ l : List ByteArray, (∀ s ∈ l, s.size ≤ m) → (joinB l).length ≤ l.length * (m + 1)
  | [], _ => by simp [joinB]
  | s :: l, h => by
    have ih := joinB_len m l (fun x hx => h x (List.mem_cons_of_mem _ hx))
    have hs := h s (List.mem_cons_self ..)
    have e : joinB (s :: l) = (s.data.toList ++ [10]) ++ joinB l := rfl
    have e2 : (s.data.toList ++ [10]).length = s.size + 1 := by rw [List.length_append, Array.length_toList]; rfl
    have e3 : (s :: l).length * (m + 1) = l.length * (m + 1) + (m + 1) := by rw [List.length_cons, Nat.succ_mul]
    rw [e, List.length_append, e2, e3]
    omega
theorem tl_end (a : ByteArray) (l : List ByteArray) (ha : a.size ≤ 3000) (hl : l.length ≤ 100) (hs : ∀ s ∈ l, s.size ≤ 1000) : Ev (fun k => (PA.text_Lines.f k a).bind fun t141 => ((PA.incipitref01_Lines.f k a).bind fun t144 => ((PA.incipitlaw01_same.f k t141 t144).bind fun t147 => (if t147 = true then ((PA.text_Join.f l).bind fun t148 => ((PA.incipitref01_Join.f k l).bind fun t149 => (if t148.toList = t149.toList then ((PA.text_Blank.f a).bind fun t150 => ((PA.incipitref01_Blank.f k a).bind fun t151 => (some (t150 == t151)))) else (some false)))) else (some false))))) true := by
  have hsz : a.data.toList.length = a.size := by rw [Array.length_toList]; rfl
  rw [← B_eta a]
  generalize a.data.toList = x at hsz
  have hj := joinB_len 1000 l hs
  have hlines : (lines x).length ≤ x.length := by
    suffices ∀ n (x : List UInt8), x.length ≤ n → (lines x).length ≤ x.length from this _ x (Nat.le_refl _)
    intro n
    induction n with
    | zero =>
      intro x hx
      have : x = [] := List.length_eq_zero_iff.1 (by omega)
      subst this
      simp [lines_nil]
    | succ n ih =>
      intro x hx
      by_cases h0 : x = []
      · subst h0; simp [lines_nil]
      · have hb := brk_len x h0
        rw [lines_cons x h0, List.length_cons]
        have := ih (brk x).2 (by omega)
        omega
  refine Ev.bind (lines_f x (by omega)) (Ev.bind (lines_ref x (by omega)) (Ev.bind (same_f _ (by rw [List.length_map]; omega)) ?_))
  refine Ev.congr (f := fun k => (PA.incipitref01_Join.f k l).bind fun t149 => (if (B (joinB l)).toList = t149.toList then ((PA.incipitref01_Blank.f k (B x)).bind fun t151 => (some ((x.all bl) == t151))) else (some false))) (fun k => ?_) ?_
  · rw [if_pos rfl, join_f l (by omega), blank_f x (by omega)]
    rfl
  · refine Ev.bind (join_ref l (by omega) (by omega)) ?_
    refine Ev.congr (f := fun k => (PA.incipitref01_Blank.f k (B x)).bind fun t151 => (some ((x.all bl) == t151))) (fun k => by rw [if_pos rfl]) ?_
    refine Ev.bind (blank_ref x (by omega)) ?_
    rw [beq_self_eq_true]
    exact Ev.now true
theorem tl_l0 (a : ByteArray) (l : List ByteArray) (ha : a.size ≤ 3000) (hl : l.length ≤ 100) : ∀ (d i : Nat), i + d = l.length → (∀ (j : Nat) (h : j < l.length), j < i → (l[j]'h).size ≤ 1000) →
    Ev (fun k => PA.incipitlaw01_TextLines.l0 k a l true (i : Int)) true := by
  intro d
  induction d with
  | zero =>
    intro i hi hs
    refine Ev.step (fun k => ?_) (tl_end a l ha hl (fun s hs' => ?_))
    · simp only [PA.incipitlaw01_TextLines.l0]
      rw [if_neg (by omega), if_pos trivial]
    · obtain ⟨j, hj, rfl⟩ := List.getElem_of_mem hs'
      exact hs j hj (by omega)
  | succ d ih =>
    intro i hi hs
    have hi' : i < l.length := by omega
    by_cases hb : ((l[i].size : Nat) : Int) > 1000
    · refine Ev.step (f := fun _ => some true) (fun k => ?_) (Ev.now true)
      simp only [PA.incipitlaw01_TextLines.l0]
      rw [if_pos (by omega), if_pos (by omega), getD_at l i hi', if_pos hb]
    · refine Ev.step (f := fun k => PA.incipitlaw01_TextLines.l0 k a l true ((i + 1 : Nat) : Int)) (fun k => ?_) (ih (i + 1) (by omega) (fun j hj hji => ?_))
      · simp only [PA.incipitlaw01_TextLines.l0]
        rw [if_pos (by omega), if_pos (by omega), getD_at l i hi', if_neg hb, w64 (by omega) (by omega)]
        exact congrArg (PA.incipitlaw01_TextLines.l0 k a l true) (by omega)
      · by_cases hji' : j < i
        · exact hs j hj hji'
        · have : j = i := by omega
          subst this
          omega
theorem TextLines : ∀ (a0 : ByteArray) (l1 : List ByteArray), a0.size ≤ 140737488351232 → l1.length * 16 ≤ 140737488351232 → (∀ x ∈ l1, x.size ≤ maxLen) → ∃ k, PA.incipitlaw01_TextLines.f k a0 l1 = some true := by
  intro a l _ _ _
  apply Ev.rounds
  unfold PA.incipitlaw01_TextLines.f
  refine Ev.bind awake_ev ?_
  by_cases h1 : (a.size : Int) > 3000
  · refine Ev.step (f := fun _ => some true) (fun k => ?_) (Ev.now true)
    rw [if_pos h1]
    simp only [PA.incipitlaw01_TextLines.j0, if_true]
  · by_cases h2 : (l.length : Int) > 100
    · refine Ev.step (f := fun _ => some true) (fun k => ?_) (Ev.now true)
      rw [if_neg h1, decide_eq_true h2]
      simp only [PA.incipitlaw01_TextLines.j0, if_true]
    · refine Ev.step (fun k => ?_) (tl_l0 a l (by omega) (by omega) l.length 0 (by omega) (fun j _ h => absurd h (Nat.not_lt_zero j)))
      rw [if_neg h1, decide_eq_false h2]
      simp only [PA.incipitlaw01_TextLines.j0]
      rfl
end Go.Proofs.YtondbckghchmpaaDoor.Pure
