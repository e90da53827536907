/-
  The plain law of AutoSums: what its printed function computes is true at every input of the row's form.
-/
import Derived.Test.YtddmddlaamcpiaaDoorPAuto5
import Derived.Test.YtddmddlaamcpiaaDoorPAx7
namespace Go.Proofs.YtddmddlaamcpiaaDoor.Pure
open Go.RowKit Go.Proofs.YtddmddlaamcpiaaDoorW.PrintWords Go.Proofs.YtddmddlaamcpiaaDoorW.PrintMore Go.Proofs.YtddmddlaamcpiaaDoor.Pl

theorem fd_len : ∀ (f : Nat) (ok : Bool) (i : Nat) (l : List UInt8), (fd f ok i l).length ≤ f
  | 0, _, _, _ => Nat.le_refl _
  | _ + 1, _, _, [] => Nat.zero_le _
  | f + 1, ok, i, x :: t => by
    rw [fd]
    split
    · exact Nat.le_succ_of_le (fd_len f _ _ _)
    · rw [List.length_cons]
      exact Nat.succ_le_succ (fd_len f _ _ _)
theorem fd_to : ∀ (f : Nat) (ok : Bool) (i : Nat) (l : List UInt8), ∀ x ∈ fd f ok i l, x.1 ≤ i + l.length ∧ x.2.1 ≤ i + l.length
  | 0, _, _, _ => by simp [fd]
  | _ + 1, _, _, [] => by simp [fd]
  | f + 1, ok, i, x :: t => by
    intro y hy
    have hle := one_le (x :: t)
    rw [List.length_cons] at hle ⊢
    rw [fd] at hy
    split at hy
    · have := fd_to f _ _ _ y hy
      omega
    · rcases List.mem_cons.1 hy with rfl | hy
      · dsimp only
        omega
      · have := fd_to f _ _ _ y hy
        rw [List.length_drop, List.length_cons] at this
        omega
theorem adr_len (l : List UInt8) : (adr l).length ≤ l.length := fd_len _ _ _ _
theorem adr_to (l : List UInt8) : ∀ x ∈ adr l, x.1 ≤ l.length ∧ x.2.1 ≤ l.length := fun x hx => by
  have := fd_to l.length true 0 l x hx
  rwa [Nat.zero_add] at this
theorem rd_map (l : List (Nat × Nat × List UInt8)) (i : Nat) (h : i < l.length) : PA.rd_T26 (l.map toS) (i : Int) = toS (l[i]'h) := by
  unfold PA.rd_T26
  rw [Int.toNat_natCast, List.getD_eq_getElem?_getD, List.getElem?_map, List.getElem?_eq_getElem h]
  rfl
theorem q_lem (y n : Nat) (hy : y ≤ 500) (hn : n ≤ 500) : wrap64 (wrap64 ((y : Int) + (n : Int)) + 1) = (y : Int) + n + 1 := by rw [w64 (x := (y : Int) + (n : Int)) (by omega) (by omega), w64 (by omega) (by omega)]
theorem q_lem1 (i : Nat) (h : i ≤ 1000) : wrap64 ((i : Int) + 1) = ((i + 1 : Nat) : Int) := w64 (by omega) (by omega)
theorem as_l (a b : List UInt8) (ha : a.length ≤ 500) (hb : b.length ≤ 500) : ∀ (d i : Nat), i + d = (adr a ++ (adr b).map (mv (a.length + 1))).length →
    Ev (fun k => PA.incipitlaw17_AutoSums.l0 k (B a) true ((adr a).map toS) ((adr b).map toS) ((adr a ++ (adr b).map (mv (a.length + 1))).map toS) (i : Int)) true := by
  have hla := adr_len a
  have hlb := adr_len b
  have hz : (adr a ++ (adr b).map (mv (a.length + 1))).length = (adr a).length + (adr b).length := by rw [List.length_append, List.length_map]
  have hz2 : (adr a ++ (adr b).map (mv (a.length + 1))).length ≤ 1000 := by omega
  intro d
  induction d with
  | zero =>
    intro i hi
    refine Ev.step (f := fun _ => some true) (fun k => ?_) (Ev.now _)
    simp only [PA.incipitlaw17_AutoSums.l0]
    rw [if_neg (by rw [List.length_map]; omega)]
  | succ d ih =>
    intro i hi
    have hn := ih (i + 1) (by omega)
    have hil : i < (adr a ++ (adr b).map (mv (a.length + 1))).length := by omega
    have hr8 := rd_map _ i hil
    by_cases h : i < (adr a).length
    · have hr6 := rd_map (adr a) i h
      have he : (adr a ++ (adr b).map (mv (a.length + 1)))[i]'hil = (adr a)[i]'h := List.getElem_append_left h
      rw [he] at hr8
      refine Ev.step (f := fun k => PA.incipitlaw17_AutoSums.j2 k (B a) true ((adr a).map toS) ((adr b).map toS) ((adr a ++ (adr b).map (mv (a.length + 1))).map toS) (i : Int) false) (fun k => ?_) ?_
      · simp only [PA.incipitlaw17_AutoSums.l0]
        rw [if_pos (by rw [List.length_map]; omega), if_pos (by rw [List.length_map]; omega), if_pos (by omega), hr8, hr6]
        simp
      · refine Ev.step (fun k => ?_) hn
        simp only [PA.incipitlaw17_AutoSums.j2]
        rw [if_neg (by decide), if_neg (by rw [List.length_map]; omega), w64 (by omega) (by omega)]
        rfl
    · obtain ⟨j, hj⟩ : ∃ j, i = (adr a).length + j := ⟨i - (adr a).length, by omega⟩
      have hjl : j < (adr b).length := by omega
      have hr7 := rd_map (adr b) j hjl
      have he : (adr a ++ (adr b).map (mv (a.length + 1)))[i]'hil = mv (a.length + 1) ((adr b)[j]'hjl) := by
        rw [List.getElem_append_right (by omega), List.getElem_map]
        congr 2
        omega
      rw [he] at hr8
      have hto := adr_to b _ (List.getElem_mem hjl)
      obtain ⟨hto1, hto2⟩ := hto
      have e1 : wrap64 ((i : Int) - (((adr a).map toS).length : Int)) = (j : Int) := by rw [List.length_map, w64 (by omega) (by omega)]; omega
      refine Ev.step (f := fun k => PA.incipitlaw17_AutoSums.j2 k (B a) true ((adr a).map toS) ((adr b).map toS) ((adr a ++ (adr b).map (mv (a.length + 1))).map toS) (i : Int) false) (fun k => ?_) ?_
      · simp only [PA.incipitlaw17_AutoSums.l0]
        rw [if_pos (by rw [List.length_map]; omega), if_neg (by rw [List.length_map]; omega)]
      · refine Ev.step (fun k => ?_) hn
        simp only [PA.incipitlaw17_AutoSums.j2]
        rw [if_neg (by decide), if_pos (by rw [List.length_map]; omega), e1, if_pos (by omega), if_pos (by rw [List.length_map]; omega), if_pos (by omega), if_pos (by rw [List.length_map]; omega), hr8, hr7]
        obtain ⟨y1, hy1⟩ : ∃ y1 : Nat, ((adr b)[j]'hjl).1 = y1 := ⟨_, rfl⟩
        obtain ⟨y2, hy2⟩ : ∃ y2 : Nat, ((adr b)[j]'hjl).2.1 = y2 := ⟨_, rfl⟩
        have f0 : (toS ((adr b)[j]'hjl)).f0 = (y1 : Int) := by rw [← hy1]; rfl
        have f1 : (toS ((adr b)[j]'hjl)).f1 = (y2 : Int) := by rw [← hy2]; rfl
        have g0 : (toS (mv (a.length + 1) ((adr b)[j]'hjl))).f0 = (y1 : Int) + a.length + 1 := by
          show ((((adr b)[j]'hjl).1 + (a.length + 1) : Nat) : Int) = _
          rw [hy1]; omega
        have g1 : (toS (mv (a.length + 1) ((adr b)[j]'hjl))).f1 = (y2 : Int) + a.length + 1 := by
          show ((((adr b)[j]'hjl).2.1 + (a.length + 1) : Nat) : Int) = _
          rw [hy2]; omega
        have g2 : (toS (mv (a.length + 1) ((adr b)[j]'hjl))).f2 = (toS ((adr b)[j]'hjl)).f2 := rfl
        rw [hy1] at hto1
        rw [hy2] at hto2
        have q1 := q_lem y1 a.length (Nat.le_trans hto1 hb) ha
        have q2 := q_lem y2 a.length (Nat.le_trans hto2 hb) ha
        have q5 := q_lem1 i (Nat.le_trans (Nat.le_of_lt hil) hz2)
        rw [f0, f1, g0, g1, g2, B_size, q1, q2, q5, if_pos rfl, if_pos rfl, if_pos rfl]
theorem AutoSums : ∀ (a0 : ByteArray) (a1 : ByteArray), a0.size ≤ 140737488351232 → a1.size ≤ 140737488351232 → ∃ k, PA.incipitlaw17_AutoSums.f k a0 a1 = some true := by
  intro a0 a1 _ _
  apply Ev.rounds
  have hs0 : a0.data.toList.length = a0.size := by rw [Array.length_toList]; rfl
  have hs1 : a1.data.toList.length = a1.size := by rw [Array.length_toList]; rfl
  have hjt : Ev (fun k => PA.incipitlaw17_AutoSums.j0 k a0 a1 true true) true := Ev.step (f := fun _ => some true) (fun k => by simp only [PA.incipitlaw17_AutoSums.j0, if_true]) (Ev.now _)
  unfold PA.incipitlaw17_AutoSums.f
  refine Ev.bind awake_ev ?_
  by_cases h : (a0.size : Int) > 500
  · refine Ev.congr (fun k => ?_) hjt
    rw [if_pos h]
  · by_cases h2 : (a1.size : Int) > 500
    · refine Ev.congr (fun k => ?_) hjt
      rw [if_neg h, decide_eq_true h2]
    · obtain ⟨a, rfl⟩ : ∃ a, a0 = B a := ⟨_, (B_eta a0).symm⟩
      obtain ⟨b, rfl⟩ : ∃ b, a1 = B b := ⟨_, (B_eta a1).symm⟩
      rw [B_data, B_size] at hs0 hs1
      rw [B_size] at h h2
      have e0 : B a ++ (⟨#[32]⟩ : ByteArray) ++ B b = B (a ++ 32 :: b) := by
        rw [show B a ++ (⟨#[32]⟩ : ByteArray) = B (a ++ [32]) from B_append a [32], B_append, List.append_assoc]
        rfl
      have e1 : B a ++ (⟨#[32]⟩ : ByteArray) = B (a ++ [32]) := B_append a [32]
      have hla := adr_len a
      have hlb := adr_len b
      refine Ev.congr (f := fun k => PA.incipitlaw17_AutoSums.j0 k (B a) (B b) true false) (fun k => by rw [B_size, B_size, if_neg h, decide_eq_false h2]) ?_
      refine Ev.step (f := fun k => (PA.auto_Find.f k (B a)).bind fun t175 => (PA.auto_Find.f k (B b)).bind fun t178 => (PA.auto_Find.f k (B (a ++ 32 :: b))).bind fun t181 => (if (t181.length : Int) = (wrap64 ((t175.length : Int) + (t178.length : Int))) then (PA.incipitlaw17_AutoSums.l0 k (B a) true t175 t178 t181 0) else (some false))) (fun k => ?_) ?_
      · simp only [PA.incipitlaw17_AutoSums.j0]
        rw [if_neg (by decide)]
        congr 1
        funext t175
        congr 1
        funext t178
        rw [if_pos (by rw [B_size]; omega), if_pos (by rw [e1, B_size, B_size, List.length_append]; show a.length + 1 + _ ≤ _; omega), e0]
      · refine Ev.bind (find_ev a (by omega)) ?_
        refine Ev.bind (find_ev b (by omega)) ?_
        refine Ev.bind (find_ev (a ++ 32 :: b) (by rw [List.length_append, List.length_cons]; omega)) ?_
        rw [adr_cut]
        refine Ev.congr (fun k => ?_) (as_l a b (by omega) (by omega) _ 0 (Nat.zero_add _))
        rw [if_pos (by rw [List.length_map, List.length_map, List.length_map, List.length_append, List.length_map, w64 (by omega) (by omega)]; omega)]
        rfl
end Go.Proofs.YtddmddlaamcpiaaDoor.Pure
