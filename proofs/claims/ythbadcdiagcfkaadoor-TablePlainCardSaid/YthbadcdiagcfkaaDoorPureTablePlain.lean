/-
  The plain law of TablePlain: what its printed function computes is true at every input of the row's form.
-/
import Derived.Test.YthbadcdiagcfkaaDoorPTab4
import Derived.Test.YthbadcdiagcfkaaDoorPAx9
namespace Go.Proofs.YthbadcdiagcfkaaDoor.Pure
open Go.RowKit Go.Proofs.YthbadcdiagcfkaaDoorW.PrintWords Go.Proofs.YthbadcdiagcfkaaDoorW.PrintMore Go.Proofs.YthbadcdiagcfkaaDoor.Pl

/-- What is written of cells. -/
def tpT (wide : Bool) (l : List (List UInt8)) : List UInt8 := 124 :: (l.map fun x => wr wide x ++ [124]).flatten
theorem tpT_snoc (wide : Bool) (l : List (List UInt8)) (x : List UInt8) : tpT wide (l ++ [x]) = tpT wide l ++ (wr wide x ++ [124]) := by simp [tpT]
theorem tpT_len (wide : Bool) (l : List (List UInt8)) (n : Nat) (h : ∀ p ∈ l, p.length ≤ n) : (tpT wide l).length ≤ 1 + l.length * (n + 4) := by
  induction l with
  | nil => simp [tpT]
  | cons x l ih =>
    have hx := h x (by simp)
    have ih := ih (fun p hp => h p (by simp [hp]))
    have e : (tpT wide (x :: l)).length = (wr wide x).length + 1 + (tpT wide l).length := by
      simp [tpT]
      omega
    have hw : (wr wide x).length ≤ n + 3 := by
      unfold wr
      split
      · simp; omega
      · omega
    rw [e, List.length_cons, Nat.succ_mul]
    omega
theorem tp_l0 (L : List (List UInt8)) (wide : Bool) (hL : L ≠ []) (hn : L.length ≤ 30) : ∀ (d i : Nat), i + d = L.length → (∀ p ∈ L.take i, lts p ∧ p.length ≤ 100) →
    Ev (fun k => PA.incipitlaw15_TablePlain.l0 k (L.map B) wide true (B (tpT wide (L.take i))) (i : Int)) true := by
  intro d
  induction d with
  | zero =>
    intro i hi ht
    rw [List.take_of_length_le (by omega)] at ht ⊢
    have hlen := tpT_len wide L 100 (fun p hp => (ht p hp).2)
    have hle : L.length * 104 ≤ 30 * 104 := Nat.mul_le_mul_right _ hn
    have e1 : cells (tpT wide L) = L := by
      have := cells_plain [] [] wide L rfl rfl hL (fun p hp => (ht p hp).1)
      rwa [List.nil_append, List.append_nil] at this
    have e2 : cells ([32, 32] ++ tpT wide L ++ [32]) = L := cells_plain [32, 32] [32] wide L (by decide) (by decide) hL (fun p hp => (ht p hp).1)
    have h1 : (⟨#[32, 32]⟩ : ByteArray) = B [32, 32] := rfl
    have h2 : (⟨#[32]⟩ : ByteArray) = B [32] := rfl
    refine Ev.step (f := fun k => (PA.incipitref15_SameRow.f k (L.map B) (L.map B)).bind fun t332 => (if t332 = true then ((PA.incipitref15_SameRow.f k (L.map B) (L.map B)).bind fun t336 => (some t336)) else (some false))) (fun k => ?_) ?_
    · simp only [PA.incipitlaw15_TablePlain.l0]
      rw [if_neg (by rw [List.length_map]; omega), if_pos trivial, cells_f _ (by omega), Option.bind_some, e1, h1, h2, B_append, B_append, B_size, B_size]
      have c1 : 2 + (tpT wide L).length ≤ 9223372036854775807 := by omega
      have c2 : ([32, 32] ++ tpT wide L).length + 1 ≤ 9223372036854775807 := by rw [List.length_append]; simp only [List.length_cons, List.length_nil]; omega
      simp only [c1, c2, if_true]
      rw [cells_f _ (by rw [List.length_append, List.length_append]; simp only [List.length_cons, List.length_nil]; omega), e2]
      simp only [Option.bind_some]
    · refine Ev.bind (samerow_ev _ (by rw [List.length_map]; omega)) ?_
      simp only [if_true]
      exact Ev.bind (samerow_ev _ (by rw [List.length_map]; omega)) (Ev.now _)
  | succ d ih =>
    intro i hi ht
    have hil : i < L.length := by omega
    have hrd : rdOf ByteArray.empty (L.map B) (i : Int) = B L[i] := getD_B i hil
    by_cases hz : ((B L[i]).size : Int) > 100
    · refine Ev.step (f := fun _ => some true) (fun k => ?_) (Ev.now _)
      simp only [PA.incipitlaw15_TablePlain.l0]
      rw [if_pos (by rw [List.length_map]; omega), if_pos (by omega), hrd, if_pos hz]
    · have hz2 : L[i].length ≤ 100 := by rw [B_size] at hz; omega
      have hlen := tpT_len wide (L.take i) 100 (fun p hp => (ht p hp).2)
      have hle : (L.take i).length * 104 ≤ 30 * 104 := Nat.mul_le_mul_right _ (by rw [List.length_take]; omega)
      have htk : L.take (i + 1) = L.take i ++ [L[i]] := by rw [List.take_append_getElem hil]
      have hin : ∀ (e j : Nat), j + e = L[i].length → lts (L[i].take j) → Ev (fun k => PA.incipitlaw15_TablePlain.l1 k (L.map B) wide true (B (tpT wide (L.take i))) (i : Int) (j : Int)) true := by
        intro e
        induction e with
        | zero =>
          intro j hj hlt
          rw [List.take_of_length_le (by omega)] at hlt
          have hn := ih (i + 1) (by omega) (fun p hp => by
            rw [htk] at hp
            rcases List.mem_append.1 hp with hp | hp
            · exact ht p hp
            · rw [List.mem_singleton.1 hp]; exact ⟨hlt, hz2⟩)
          rw [htk, tpT_snoc] at hn
          refine Ev.step (fun k => ?_) hn
          simp only [PA.incipitlaw15_TablePlain.l1]
          have h2 : (⟨#[32]⟩ : ByteArray) = B [32] := rfl
          have h3 : (⟨#[32, 9, 124]⟩ : ByteArray) = B [32, 9, 124] := rfl
          have h4 : (⟨#[124]⟩ : ByteArray) = B [124] := rfl
          rw [if_pos (by omega), if_pos (by rw [List.length_map]; omega), hrd, if_neg (by rw [B_size]; omega), w64 (by omega) (by omega), h2, h3, h4]
          simp only [B_append, B_size, List.length_append, List.length_cons, List.length_nil]
          unfold wr
          cases wide with
          | true =>
            rw [if_pos rfl, if_pos (by omega), if_pos (by omega), if_pos (by omega), if_pos rfl]
            simp only [List.append_assoc, List.cons_append, List.nil_append]
            rfl
          | false =>
            rw [if_neg (by decide), if_pos (by omega), if_pos (by omega), if_neg (by decide), List.append_assoc]
            rfl
        | succ e ihe =>
          intro j hj hlt
          have hjl : j < L[i].length := by omega
          have hx := B_bt L[i] j hjl
          by_cases hc : 97 ≤ L[i][j].toNat ∧ L[i][j].toNat ≤ 122
          · refine Ev.step (fun k => ?_) (ihe (j + 1) (by omega) (fun x hx2 => by
              rw [← List.take_append_getElem hjl] at hx2
              rcases List.mem_append.1 hx2 with h | h
              · exact hlt x h
              · rw [List.mem_singleton.1 h]; exact hc))
            simp only [PA.incipitlaw15_TablePlain.l1]
            rw [if_pos (by omega), if_pos (by rw [List.length_map]; omega), hrd, if_pos (by rw [B_size]; omega), if_pos (by omega), hx, if_neg (by omega), if_neg (by omega), w64 (by omega) (by omega)]
            rfl
          · refine Ev.step (f := fun _ => some true) (fun k => ?_) (Ev.now _)
            simp only [PA.incipitlaw15_TablePlain.l1]
            rw [if_pos (by omega), if_pos (by rw [List.length_map]; omega), hrd, if_pos (by rw [B_size]; omega), if_pos (by omega), hx]
            by_cases h1 : (L[i][j].toNat : Int) < 97
            · rw [if_pos h1]
            · rw [if_neg h1, if_pos (by omega)]
      refine Ev.step (fun k => ?_) (hin L[i].length 0 (Nat.zero_add _) (by intro x hx; simp at hx))
      simp only [PA.incipitlaw15_TablePlain.l0]
      rw [if_pos (by rw [List.length_map]; omega), if_pos (by omega), hrd, if_neg hz]
      rfl
theorem TablePlain : ∀ (l0 : List ByteArray) (a1 : Bool), l0.length * 16 ≤ 140737488351232 → (∀ x ∈ l0, x.size ≤ maxLen) → ∃ k, PA.incipitlaw15_TablePlain.f k l0 a1 = some true := by
  intro l0 wide _ _
  apply Ev.rounds
  obtain ⟨L, rfl⟩ : ∃ L : List (List UInt8), l0 = L.map B := ⟨l0.map (·.data.toList), by
    rw [List.map_map]
    conv => lhs; rw [← List.map_id l0]
    exact List.map_congr_left fun x _ => (B_eta x).symm⟩
  unfold PA.incipitlaw15_TablePlain.f
  refine Ev.bind awake_ev ?_
  have hyes : Ev (fun k => PA.incipitlaw15_TablePlain.j0 k (L.map B) wide true true) true := Ev.step (f := fun _ => some true) (fun k => by simp only [PA.incipitlaw15_TablePlain.j0, if_true]) (Ev.now _)
  by_cases h0 : ((L.map B).length : Int) = 0
  · refine Ev.congr (fun k => ?_) hyes
    rw [if_pos h0]
  · by_cases h1 : ((L.map B).length : Int) > 30
    · refine Ev.congr (fun k => ?_) hyes
      rw [if_neg h0, decide_eq_true h1]
    · rw [List.length_map] at h0 h1
      have h2 : L ≠ [] := by rintro rfl; exact h0 rfl
      have h := tp_l0 L wide h2 (by omega) L.length 0 (Nat.zero_add _) (by simp)
      refine Ev.step (f := fun k => PA.incipitlaw15_TablePlain.l0 k (L.map B) wide true (B [124]) 0) (g := fun k => if ((L.map B).length : Int) = 0 then PA.incipitlaw15_TablePlain.j0 k (L.map B) wide true true else PA.incipitlaw15_TablePlain.j0 k (L.map B) wide true (decide (((L.map B).length : Int) > 30))) (fun k => ?_) h
      rw [List.length_map, if_neg h0, decide_eq_false h1]
      simp only [PA.incipitlaw15_TablePlain.j0]
      rw [if_neg (by decide)]
      rfl
end Go.Proofs.YthbadcdiagcfkaaDoor.Pure
