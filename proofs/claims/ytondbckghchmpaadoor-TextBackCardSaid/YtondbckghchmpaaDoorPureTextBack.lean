/-
  The plain law of TextBack: what its printed function computes is true at every input of the row's form.
-/
import Derived.Test.YtondbckghchmpaaDoorPAx3
import Derived.Test.YtondbckghchmpaaDoorPLines3
namespace Go.Proofs.YtondbckghchmpaaDoor.Pure
open Go.RowKit Go.Proofs.YtondbckghchmpaaDoorW.PrintWords Go.Proofs.YtondbckghchmpaaDoorW.PrintMore Go.Proofs.YtondbckghchmpaaDoor.Pl

theorem tk_l1 (x : List UInt8) (m : List (List UInt8)) (hm : m.length ≤ 3000) (hs : ∀ l ∈ m, l.length ≤ 3000) (hc : ∀ l ∈ m, ∀ y ∈ l, y ≠ 10 ∧ y ≠ 13) (i : Nat) (hi : i < m.length)
    (hr : Ev (fun k => PA.incipitlaw01_TextBack.l0 k (B x) true (m.map B) ((i + 1 : Nat) : Int)) true) :
    ∀ (d j : Nat), j + d = (m[i]'hi).length → Ev (fun k => PA.incipitlaw01_TextBack.l1 k (B x) true (m.map B) (i : Int) (j : Int)) true := by
  have hg := getD_B (l := m) i hi
  have hsi := hs _ (List.getElem_mem hi)
  intro d
  induction d with
  | zero =>
    intro j hj
    refine Ev.step (fun k => ?_) hr
    simp only [PA.incipitlaw01_TextBack.l1]
    rw [if_pos (by omega), if_pos (by rw [List.length_map]; omega), hg, B_size, if_neg (by omega), w64 (by omega) (by omega)]
    exact congrArg (PA.incipitlaw01_TextBack.l0 k (B x) true (m.map B)) (by omega)
  | succ d ih =>
    intro j hj
    have hj' : j < (m[i]'hi).length := by omega
    obtain ⟨c1, c2⟩ := hc _ (List.getElem_mem hi) _ (List.getElem_mem hj')
    have e10 : ((((m[i]'hi)[j]'hj').toNat : Int) = 10) ↔ (m[i]'hi)[j]'hj' = 10 := u8_eq _ 10 (by omega)
    have e13 : ((((m[i]'hi)[j]'hj').toNat : Int) = 13) ↔ (m[i]'hi)[j]'hj' = 13 := u8_eq _ 13 (by omega)
    refine Ev.step (f := fun k => PA.incipitlaw01_TextBack.l1 k (B x) true (m.map B) (i : Int) ((j + 1 : Nat) : Int)) (fun k => ?_) (ih (j + 1) (by omega))
    simp only [PA.incipitlaw01_TextBack.l1]
    rw [if_pos (by omega), if_pos (by rw [List.length_map]; omega), hg, B_size, if_pos (by omega), if_pos (by omega), B_bt _ j hj', if_neg (fun h => c1 (e10.1 h)), if_neg (fun h => c2 (e13.1 h)), w64 (by omega) (by omega)]
    exact congrArg (PA.incipitlaw01_TextBack.l1 k (B x) true (m.map B) (i : Int)) (by omega)
theorem tk_l0 (x : List UInt8) (hx : x.length ≤ 3000) : ∀ (d i : Nat), i + d = (lines x).length → Ev (fun k => PA.incipitlaw01_TextBack.l0 k (B x) true ((lines x).map B) (i : Int)) true := by
  have hle := lines_le x
  have hjl := join_lines_len x
  have hs : ∀ l ∈ lines x, l.length ≤ 3000 + 3000 := by
    intro l hl
    obtain ⟨i, hi, rfl⟩ := List.getElem_of_mem hl
    have h1 := joinB_take_succ ((lines x).map B) i (by rw [List.length_map]; exact hi)
    have h2 := joinB_take_le ((lines x).map B) (i + 1)
    rw [h1] at h2
    simp only [List.length_append, List.getElem_map, B_data, List.length_cons, List.length_nil] at h2
    omega
  have hs2 : ∀ l ∈ lines x, l.length ≤ 3000 := by
    intro l hl
    have : ∀ n (x : List UInt8), x.length ≤ n → ∀ l ∈ lines x, l.length ≤ x.length := by
      intro n
      induction n with
      | zero =>
        intro x hx l hl
        have : x = [] := List.length_eq_zero_iff.1 (by omega)
        subst this
        cases hl
      | succ n ih =>
        intro x hx l hl
        by_cases h0 : x = []
        · subst h0; cases hl
        · have hb := brk_len x h0
          have hb1 := brk_len1 x
          rw [lines_cons x h0] at hl
          rcases List.mem_cons.1 hl with rfl | hl
          · exact hb1
          · have := ih (brk x).2 (by omega) l hl
            omega
    have := this _ x (Nat.le_refl _) l hl
    omega
  intro d
  induction d with
  | zero =>
    intro i hi
    refine Ev.step (f := fun k => (PA.text_Lines.f k (B (joinB ((lines x).map B)))).bind fun t157 => ((PA.incipitlaw01_same.f k t157 ((lines x).map B)).bind fun t160 => (if t160 = true then (some (decide ((((lines x).map B).length : Int) ≤ ((B x).size : Int)))) else (some false)))) (fun k => ?_) ?_
    · simp only [PA.incipitlaw01_TextBack.l0]
      rw [if_neg (by rw [List.length_map]; omega), if_pos trivial, join_f _ (by omega)]
      rfl
    · refine Ev.bind (lines_f _ (by omega)) ?_
      rw [lines_join _ (lines_clean x)]
      refine Ev.bind (same_f _ (by rw [List.length_map]; omega)) ?_
      refine Ev.congr (f := fun _ => some true) (fun _ => ?_) (Ev.now true)
      rw [if_pos rfl, List.length_map, B_size, decide_eq_true (by omega)]
  | succ d ih =>
    intro i hi
    have hi' : i < (lines x).length := by omega
    refine Ev.step (f := fun k => PA.incipitlaw01_TextBack.l1 k (B x) true ((lines x).map B) (i : Int) ((0 : Nat) : Int)) (fun k => ?_) (tk_l1 x (lines x) (by omega) hs2 (lines_clean x) i hi' (ih (i + 1) (by omega)) _ 0 (Nat.zero_add _))
    simp only [PA.incipitlaw01_TextBack.l0]
    rw [if_pos (by rw [List.length_map]; omega)]
    rfl
theorem TextBack : ∀ (a0 : ByteArray), a0.size ≤ 140737488351232 → ∃ k, PA.incipitlaw01_TextBack.f k a0 = some true := by
  intro a _
  apply Ev.rounds
  unfold PA.incipitlaw01_TextBack.f
  refine Ev.bind awake_ev ?_
  have hsa : a.data.toList.length = a.size := by rw [Array.length_toList]; rfl
  by_cases h1 : (a.size : Int) > 3000
  · refine Ev.congr (f := fun _ => some true) (fun k => ?_) (Ev.now true)
    rw [if_pos h1]
  · refine Ev.congr (f := fun k => (PA.text_Lines.f k a).bind fun t153 => (PA.incipitlaw01_TextBack.l0 k a true t153 0)) (fun k => by rw [if_neg h1]) ?_
    rw [← B_eta a]
    exact Ev.bind (lines_f _ (by omega)) (tk_l0 _ (by omega) _ 0 (Nat.zero_add _))
end Go.Proofs.YtondbckghchmpaaDoor.Pure
