/-
  The plain law of TableSplits: what its printed function computes is true at every input of the row's form.
-/
import Derived.Test.YthbadcdiagcfkaaDoorPTab3
import Derived.Test.YthbadcdiagcfkaaDoorPAx8
namespace Go.Proofs.YthbadcdiagcfkaaDoor.Pure
open Go.RowKit Go.Proofs.YthbadcdiagcfkaaDoorW.PrintWords Go.Proofs.YthbadcdiagcfkaaDoorW.PrintMore Go.Proofs.YthbadcdiagcfkaaDoor.Pl

theorem samerows_l (l : List (List ByteArray)) (hl : l.length ≤ 1048577) (hr : ∀ r ∈ l, r.length ≤ 1048577) : ∀ (d i : Nat), i + d = l.length → Ev (fun k => PA.incipitref15_SameRows.l0 k l l (i : Int)) true := by
  intro d
  induction d with
  | zero =>
    intro i hi
    refine Ev.step (f := fun _ => some true) (fun k => ?_) (Ev.now _)
    simp only [PA.incipitref15_SameRows.l0]
    rw [if_neg (by omega)]
  | succ d ih =>
    intro i hi
    have hil : i < l.length := by omega
    have hrd : PA.rd_L2 l (i : Int) = l[i] := by
      unfold PA.rd_L2
      rw [Int.toNat_natCast, List.getD_eq_getElem?_getD, List.getElem?_eq_getElem hil]
      rfl
    refine Ev.step (f := fun k => (PA.incipitref15_SameRow.f k l[i] l[i]).bind fun t288 => (if t288 = true then (PA.incipitref15_SameRows.l0 k l l ((i + 1 : Nat) : Int)) else (some false))) (fun k => ?_) ?_
    · simp only [PA.incipitref15_SameRows.l0]
      rw [if_pos (by omega), if_pos (by omega), if_pos (by omega), hrd, w64 (by omega) (by omega)]
      rfl
    · refine Ev.bind (samerow_ev _ (hr _ (List.getElem_mem hil))) ?_
      simp only [if_true]
      exact ih (i + 1) (by omega)
theorem samerows_ev (l : List (List ByteArray)) (hl : l.length ≤ 1048577) (hr : ∀ r ∈ l, r.length ≤ 1048577) : Ev (fun k => PA.incipitref15_SameRows.f k l l) true := by
  unfold PA.incipitref15_SameRows.f
  refine Ev.congr (fun k => ?_) (samerows_l l hl hr _ 0 (Nat.zero_add _))
  rw [if_pos rfl]
  rfl
theorem rws_len (ls : List (List UInt8)) (i n : Nat) : ∀ r ∈ rws ls i n, r.length = n := by
  intro r hr
  unfold rws at hr
  rcases List.mem_cons.1 hr with rfl | h
  · exact rowB_len _ _
  · obtain ⟨x, _, rfl⟩ := List.mem_map.1 h
    exact rowB_len _ _
theorem splR_bounds (s : List UInt8) : (splR s).2.1.length ≤ s.length + 1 ∧ (∀ r ∈ (splR s).2.1, r.length ≤ s.length + 1) ∧ (splR s).2.2.length ≤ s.length + 1 := by
  have h1 := lns_len s
  unfold splR
  split
  · simp
  · rename_i i hi
    have hl2 := getD_le (lns s) s.length i (lns_size s)
    have ha := als_len ((lns s).getD i [])
    obtain ⟨h3, h4, _, _⟩ := spl_some _ _ _ _ hi
    refine ⟨?_, fun r hr => ?_, by simp only; omega⟩
    · simp only [rws, List.length_cons, List.length_map, List.length_drop]
      omega
    · rw [rws_len _ _ _ r hr]
      omega
theorem TableSplits : ∀ (a0 : ByteArray), a0.size ≤ 140737488351232 → ∃ k, PA.incipitlaw15_TableSplits.f k a0 = some true := by
  intro a0 _
  apply Ev.rounds
  obtain ⟨s, rfl⟩ : ∃ s, a0 = B s := ⟨_, (B_eta a0).symm⟩
  unfold PA.incipitlaw15_TableSplits.f
  refine Ev.bind awake_ev ?_
  by_cases h : ((B s).size : Int) > 1500
  · refine Ev.congr (f := fun _ => some true) (fun k => ?_) (Ev.now _)
    rw [if_pos h]
  · have hs : s.length ≤ 1500 := by rw [B_size] at h; omega
    obtain ⟨b1, b2, b3⟩ := splR_bounds s
    have hbody : Ev (fun k => (PA.table_Split.f k (B s)).bind fun bt290 => ((PA.incipitref15_Split.f k (B s)).bind fun bt297 => (if bt290.1.toList = bt297.1.toList then ((PA.incipitref15_SameRows.f k bt290.2.1 bt297.2.1).bind fun t304 => (if t304 = true then ((PA.incipitref15_SameNumbers.f k bt290.2.2 bt297.2.2).bind fun t305 => (some t305)) else (some false))) else (some false)))) true := by
      refine Ev.bind (split_ev s (by omega)) (Ev.bind (rsplit_ev s (by omega)) ?_)
      simp only [if_true]
      refine Ev.bind (samerows_ev _ (by omega) (fun r hr => by have := b2 r hr; omega)) ?_
      simp only [if_true]
      exact Ev.bind (samenum_ev _ (by omega)) (Ev.now _)
    refine Ev.congr (fun k => ?_) hbody
    rw [if_neg h]
    simp only [if_true]
end Go.Proofs.YthbadcdiagcfkaaDoor.Pure
