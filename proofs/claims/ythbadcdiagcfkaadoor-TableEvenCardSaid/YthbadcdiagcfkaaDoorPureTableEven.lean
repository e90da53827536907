/-
  The plain law of TableEven: what its printed function computes is true at every input of the row's form.
-/
import Derived.Test.YthbadcdiagcfkaaDoorPTab3
import Derived.Test.YthbadcdiagcfkaaDoorPAx8
namespace Go.Proofs.YthbadcdiagcfkaaDoor.Pure
open Go.RowKit Go.Proofs.YthbadcdiagcfkaaDoorW.PrintWords Go.Proofs.YthbadcdiagcfkaaDoorW.PrintMore Go.Proofs.YthbadcdiagcfkaaDoor.Pl

theorem rws_row (ls : List (List UInt8)) (i n : Nat) : ∀ r ∈ rws ls i n, r.length = n := by
  intro r hr
  unfold rws at hr
  rcases List.mem_cons.1 hr with rfl | h
  · exact rowB_len _ _
  · obtain ⟨x, _, rfl⟩ := List.mem_map.1 h
    exact rowB_len _ _
theorem prt_pos : ∀ (t cur : List UInt8) (prev : UInt8), 0 < (PA.prt cur prev t).length
  | [], _, _ => by simp [PA.prt]
  | x :: t, cur, prev => by
    unfold PA.prt
    split
    · simp
    · exact prt_pos t _ _
theorem cells_pos (s : List UInt8) : 0 < (cells s).length := by
  unfold cells
  rw [List.length_map]
  exact prt_pos _ _ _
theorem als_pos (s : List UInt8) (h : (als s).2 = true) : 0 < (als s).1.length := by
  unfold als at h ⊢
  split at h
  · rename_i hm
    rw [if_pos hm]
    unfold alsC at h ⊢
    split at h
    · rename_i ha
      rw [if_pos ha, List.length_map]
      exact cells_pos s
    · cases h
  · cases h
theorem getD_take (ls : List (List UInt8)) (n m : Nat) (h : m < n) : (ls.take n).getD m [] = ls.getD m [] := by
  rw [List.getD_eq_getElem?_getD, List.getElem?_take, if_pos h, ← List.getD_eq_getElem?_getD]
/-- What stands ahead of a table: the beginning of the text, shorter, without a table. -/
theorem ahead (s : List UInt8) (i : Nat) (h : spl (lns s) ((lns s).length - 1) 1 = some i) :
    (∃ r, s = Lib.join ((lns s).take (i - 1)) [10] ++ r ∧ r ≠ []) ∧ splR (Lib.join ((lns s).take (i - 1)) [10]) = (B (Lib.join ((lns s).take (i - 1)) [10]), [], []) := by
  obtain ⟨h1, h2, h3, h4⟩ := spl_some _ _ _ _ h
  have hjs : Lib.join (lns s) [10] = s := by have := join_lf s []; rwa [List.nil_append] at this
  have hcl : ∀ p ∈ lns s, (10 : UInt8) ∉ p := lf_clean s [] (by simp)
  have hil : i < (lns s).length := by omega
  by_cases h0 : i - 1 = 0
  · rw [h0, List.take_zero]
    refine ⟨⟨s, rfl, ?_⟩, rfl⟩
    intro e
    rw [e] at hil
    have : (lns []).length = 1 := rfl
    omega
  · have hne : (lns s).take (i - 1) ≠ [] := fun e => by have := congrArg List.length e; rw [List.length_take, List.length_nil] at this; omega
    have hne2 : (lns s).drop (i - 1) ≠ [] := fun e => by have := congrArg List.length e; rw [List.length_drop, List.length_nil] at this; omega
    refine ⟨⟨10 :: Lib.join ((lns s).drop (i - 1)) [10], ?_, by simp⟩, ?_⟩
    · have e := join_app _ _ hne hne2
      rw [List.take_append_drop, hjs] at e
      exact e
    · have hl : lns (Lib.join ((lns s).take (i - 1)) [10]) = (lns s).take (i - 1) := lf_join _ hne (fun p hp => hcl p (List.mem_of_mem_take hp))
      unfold splR
      rw [hl, spl_none]
      intro m m1 m2
      rw [List.length_take] at m2
      rw [getD_take _ _ _ (by omega), getD_take _ _ _ (by omega)]
      exact h4 m m1 (by omega)
theorem te_l (s a : List UInt8) (rows : List (List ByteArray)) (n : List Int) (hs : s.length ≤ 1500) (hn : 0 < n.length) (hr : ∀ r ∈ rows, r.length = n.length) (hrl : rows.length ≤ 1501) (hsa : ∃ r, s = a ++ r ∧ r ≠ []) (hsp : splR a = (B a, [], [])) : ∀ (d i : Nat), i + d = rows.length →
    Ev (fun k => PA.incipitlaw15_TableEven.l0 k (B s) true (B a) rows n (i : Int)) true := by
  obtain ⟨r, e, hr0⟩ := hsa
  have hal : a.length < s.length := by
    have := List.length_pos_iff.2 hr0
    rw [e, List.length_append]
    omega
  have hext : (B s).extract 0 a.length = B a := by rw [B_to, e, List.take_left' rfl]
  intro d
  induction d with
  | zero =>
    intro i hi
    refine Ev.step (f := fun k => (PA.table_Split.f k (B a)).bind fun bt315 => (if bt315.1.toList = (B a).toList then (some ((bt315.2.1.length : Int) == 0)) else (some false))) (fun k => ?_) ?_
    · simp only [PA.incipitlaw15_TableEven.l0]
      rw [if_neg (by omega)]
      have hc1 : ((n.length : Int) > 0) := by omega
      have hc2 : (((B a).size : Int) < ((B s).size : Int)) := by rw [B_size, B_size]; omega
      have hc3 : (0 : Int) ≤ ((B a).size : Int) := by omega
      have hc4 : (((B a).size : Int) ≤ ((B s).size : Int)) := by omega
      have hc5 : ((B s).extract 0 ((B a).size : Int).toNat).toList = (B a).toList := by rw [B_size, Int.toNat_natCast, hext]
      simp only [hc1, hc2, hc3, hc4, hc5, if_true]
    · refine Ev.bind (split_ev a (by omega)) ?_
      rw [hsp]
      simp only [if_true]
      exact Ev.now _
  | succ d ih =>
    intro i hi
    have hil : i < rows.length := by omega
    have hrd : PA.rd_L2 rows (i : Int) = rows[i] := by
      unfold PA.rd_L2
      rw [Int.toNat_natCast, List.getD_eq_getElem?_getD, List.getElem?_eq_getElem hil]
      rfl
    refine Ev.step (fun k => ?_) (ih (i + 1) (by omega))
    simp only [PA.incipitlaw15_TableEven.l0]
    rw [if_pos (by omega), if_pos (by omega), hrd, if_pos (by rw [hr _ (List.getElem_mem hil)]), w64 (by omega) (by omega)]
    rfl
theorem TableEven : ∀ (a0 : ByteArray), a0.size ≤ 140737488351232 → ∃ k, PA.incipitlaw15_TableEven.f k a0 = some true := by
  intro a0 _
  apply Ev.rounds
  obtain ⟨s, rfl⟩ : ∃ s, a0 = B s := ⟨_, (B_eta a0).symm⟩
  unfold PA.incipitlaw15_TableEven.f
  refine Ev.bind awake_ev ?_
  by_cases h : ((B s).size : Int) > 1500
  · refine Ev.congr (f := fun _ => some true) (fun k => ?_) (Ev.now _)
    rw [if_pos h]
  · have hs : s.length ≤ 1500 := by rw [B_size] at h; omega
    have h1 := lns_len s
    refine Ev.congr (f := fun k => (PA.table_Split.f k (B s)).bind fun bt307 => (if (bt307.2.1.length : Int) = 0 then (if bt307.1.toList = (B s).toList then (some ((bt307.2.2.length : Int) == 0)) else (some false)) else (PA.incipitlaw15_TableEven.l0 k (B s) true bt307.1 bt307.2.1 bt307.2.2 0))) (fun k => by rw [if_neg h]; simp only [if_true]) ?_
    refine Ev.bind (split_ev s (by omega)) ?_
    unfold splR
    cases hq : spl (lns s) ((lns s).length - 1) 1 with
    | none =>
      simp only [List.length_nil, Int.natCast_zero, if_true, beq_self_eq_true]
      exact Ev.now _
    | some i =>
      obtain ⟨h2, h3, h4, _⟩ := spl_some _ _ _ _ hq
      obtain ⟨hsa, hsp⟩ := ahead s i hq
      have hok : (als ((lns s).getD i [])).2 = true := by
        unfold bgOk at h4
        rw [Bool.and_eq_true] at h4
        exact h4.1
      have hrn : ¬ ((rws (lns s) i (als ((lns s).getD i [])).1.length).length : Int) = 0 := by
        unfold rws
        rw [List.length_cons]
        omega
      simp only [hrn, if_false]
      exact te_l s _ _ _ hs (als_pos _ hok) (rws_row _ _ _) (by simp only [rws, List.length_cons, List.length_map, List.length_drop]; omega) hsa hsp _ 0 (Nat.zero_add _)
end Go.Proofs.YthbadcdiagcfkaaDoor.Pure
