/-
  The plain law of TableReads: what its printed function computes is true at every input of the row's form.
-/
import Derived.Test.YthbadcdiagcfkaaDoorPTab3
import Derived.Test.YthbadcdiagcfkaaDoorPTab4
import Derived.Test.YthbadcdiagcfkaaDoorPAx10
namespace Go.Proofs.YthbadcdiagcfkaaDoor.Pure
open Go.RowKit Go.Proofs.YthbadcdiagcfkaaDoorW.PrintWords Go.Proofs.YthbadcdiagcfkaaDoorW.PrintMore Go.Proofs.YthbadcdiagcfkaaDoor.Pl

/-- Texts between bars. -/
def bars (l : List (List UInt8)) : List UInt8 := 124 :: (l.map (· ++ [124])).flatten
theorem bars_snoc (l : List (List UInt8)) (x : List UInt8) : bars (l ++ [x]) = bars l ++ (x ++ [124]) := by simp [bars]
theorem cells_of (l : List (List UInt8)) (hl : l ≠ []) (h : ∀ p ∈ l, ∀ x ∈ p, x ≠ 124 ∧ x ≠ 92) : cells (bars l) = l.map cel := by
  have := cells_bars [] [] l rfl rfl hl h
  rwa [List.nil_append, List.append_nil] at this
theorem cells_head (C : List (List UInt8)) (hl : C ≠ []) (h : ∀ p ∈ C, lts p) : cells (bars C) = C := by
  have := cells_plain [] [] false C rfl rfl hl h
  rwa [List.nil_append, List.append_nil] at this
theorem bars_len (l : List (List UInt8)) (n : Nat) (h : ∀ p ∈ l, p.length ≤ n) : (bars l).length ≤ 1 + l.length * (n + 1) := by
  induction l with
  | nil => simp [bars]
  | cons x l ih =>
    have hx := h x (by simp)
    have ih := ih (fun p hp => h p (by simp [hp]))
    have e : (bars (x :: l)).length = x.length + 1 + (bars l).length := by
      simp [bars]
      omega
    rw [e, List.length_cons, Nat.succ_mul]
    omega
/-- The line below a head. -/
def below (C : List (List UInt8)) : List UInt8 := bars (C.map fun _ => [58, 45])
theorem cells_below (C : List (List UInt8)) (hl : C ≠ []) : cells (below C) = C.map fun _ => [58, 45] := by
  unfold below
  rw [cells_of _ (by simpa using hl) (fun p hp x hx => by
    obtain ⟨_, _, rfl⟩ := List.mem_map.1 hp
    rcases List.mem_cons.1 hx with rfl | hx
    · decide
    · rw [List.mem_singleton.1 hx]; decide), List.map_map]
  exact List.map_congr_left fun _ _ => by show cel [58, 45] = _; decide
theorem als_below (C : List (List UInt8)) (hl : C ≠ []) : als (below C) = (C.map fun _ => (1 : Int), true) := by
  unfold als
  rw [if_pos (by unfold below bars; simp), cells_below C hl]
  unfold alsC
  rw [if_pos (by rw [List.all_map, List.all_eq_true]; intro x _; show alOk [58, 45] = true; decide), List.map_map]
  congr 1
theorem als_head (C : List (List UInt8)) (hl : C ≠ []) (h : ∀ p ∈ C, lts p ∧ p ≠ []) : (als (bars C)).2 = false := by
  unfold als
  rw [if_pos (by unfold bars; simp), cells_head C hl (fun p hp => (h p hp).1)]
  unfold alsC
  rw [if_neg]
  obtain ⟨c, r, rfl⟩ := List.exists_cons_of_ne_nil hl
  obtain ⟨hc, hc0⟩ := h c (by simp)
  obtain ⟨x, t, rfl⟩ := List.exists_cons_of_ne_nil hc0
  have hx := hc x (by simp)
  have h1 : al1 (x :: t) = x :: t := by
    unfold al1 alL
    rw [if_neg (by rw [decide_eq_true_eq]; simp; exact lt_ne hx 58 (by decide))]
  have h2 : al2 (x :: t) = x :: t := by
    unfold al2 alR
    rw [h1, if_neg]
    rw [decide_eq_true_eq]
    intro e
    exact lt_ne (hc 58 (List.mem_of_getLast? e)) 58 (by decide) rfl
  rw [List.all_cons, Bool.and_eq_true]
  rintro ⟨e, _⟩
  unfold alOk at e
  rw [h2] at e
  simp at e
  exact lt_ne hx 45 (by decide) e.1
theorem als_none (s : List UInt8) (h : (124 : UInt8) ∉ s) : (als s).2 = false := by unfold als; rw [if_neg h]
theorem lts_bar {p : List UInt8} (h : lts p) (c : UInt8) (hc : c.toNat < 97 ∨ 122 < c.toNat) : c ∉ p := fun hm => lt_ne (h c hm) c hc rfl
/-- The lines that are written. -/
def lsT (A C : List (List UInt8)) (k : Nat) : List (List UInt8) := A ++ (bars C :: below C :: List.replicate k (bars C))
theorem lsT_none (A C : List (List UInt8)) (k : Nat) (hC : C ≠ []) (hA : ∀ p ∈ A, lts p) (hc : ∀ p ∈ C, lts p ∧ p ≠ []) (m : Nat) (h : m < A.length + 1) : bgOk ((lsT A C k).getD (m - 1) []) ((lsT A C k).getD m []) = false := by
  have e : (als ((lsT A C k).getD m [])).2 = false := by
    unfold lsT
    by_cases hm : m < A.length
    · rw [List.getD_eq_getElem?_getD, List.getElem?_append_left hm, List.getElem?_eq_getElem hm]
      exact als_none _ (lts_bar (hA _ (List.getElem_mem hm)) 124 (by decide))
    · obtain rfl : m = A.length := by omega
      rw [List.getD_eq_getElem?_getD, List.getElem?_append_right (Nat.le_refl _), Nat.sub_self]
      exact als_head C hC hc
  unfold bgOk
  rw [e]
  rfl
theorem lsT_at (A C : List (List UInt8)) (k : Nat) (hC : C ≠ []) (hc : ∀ p ∈ C, lts p) : (lsT A C k).getD A.length [] = bars C ∧ (lsT A C k).getD (A.length + 1) [] = below C ∧ bgOk (bars C) (below C) = true := by
  refine ⟨?_, ?_, ?_⟩
  · unfold lsT
    rw [List.getD_eq_getElem?_getD, List.getElem?_append_right (Nat.le_refl _), Nat.sub_self]
    rfl
  · unfold lsT
    rw [List.getD_eq_getElem?_getD, List.getElem?_append_right (Nat.le_succ _), show A.length.succ - A.length = 1 by omega]
    rfl
  · unfold bgOk
    rw [als_below C hC, cells_head C hC hc, decide_eq_true (show (124 : UInt8) ∈ bars C by unfold bars; simp)]
    simp
theorem spl_at (ls : List (List UInt8)) : ∀ (d i j : Nat), i ≤ j → j < i + d → (∀ m, i ≤ m → m < j → bgOk (ls.getD (m - 1) []) (ls.getD m []) = false) → bgOk (ls.getD (j - 1) []) (ls.getD j []) = true → spl ls d i = some j
  | 0, i, j, h1, h2, _, _ => by omega
  | d + 1, i, j, h1, h2, h3, h4 => by
    rw [spl]
    by_cases hij : i = j
    · subst hij
      rw [if_pos h4]
    · rw [h3 i (Nat.le_refl _) (by omega), if_neg (by decide)]
      exact spl_at ls d (i + 1) j (by omega) (by omega) (fun m m1 m2 => h3 m (by omega) m2) h4
/-- The text that is written. -/
def txT (A C : List (List UInt8)) (k : Nat) : List UInt8 := Lib.join (lsT A C k) [10]
theorem bars_lf (l : List (List UInt8)) (h : ∀ p ∈ l, (10 : UInt8) ∉ p) : (10 : UInt8) ∉ bars l := by
  unfold bars
  intro hm
  rcases List.mem_cons.1 hm with e | hm
  · exact absurd e (by decide)
  · obtain ⟨q, hq, hx⟩ := List.mem_flatten.1 hm
    obtain ⟨p, hp, rfl⟩ := List.mem_map.1 hq
    rcases List.mem_append.1 hx with e | e
    · exact h p hp e
    · exact absurd (List.mem_singleton.1 e) (by decide)
theorem splR_T (A C : List (List UInt8)) (k : Nat) (hC : C ≠ []) (hA : ∀ p ∈ A, lts p) (hc : ∀ p ∈ C, lts p ∧ p ≠ []) :
    splR (txT A C k) = (B (Lib.join A [10]), List.replicate (k + 1) (C.map B), C.map fun _ => 1) := by
  have hln : lns (txT A C k) = lsT A C k := by
    refine lf_join _ (by unfold lsT; simp) (fun p hp => ?_)
    have hb := bars_lf C (fun p hp => lts_bar (hc p hp).1 10 (by decide))
    unfold lsT at hp
    rcases List.mem_append.1 hp with hp | hp
    · exact lts_bar (hA p hp) 10 (by decide)
    · rcases List.mem_cons.1 hp with rfl | hp
      · exact hb
      · rcases List.mem_cons.1 hp with rfl | hp
        · refine bars_lf _ (fun p hp => ?_)
          obtain ⟨_, _, rfl⟩ := List.mem_map.1 hp
          decide
        · rw [(List.mem_replicate.1 hp).2]
          exact hb
  obtain ⟨h1, h2, h3⟩ := lsT_at A C k hC (fun p hp => (hc p hp).1)
  have hlen : (lsT A C k).length = A.length + (k + 2) := by unfold lsT; simp
  have hsp : spl (lsT A C k) ((lsT A C k).length - 1) 1 = some (A.length + 1) := by
    refine spl_at _ _ _ _ (by omega) (by omega) (fun m m1 m2 => lsT_none A C k hC hA hc m m2) ?_
    rw [Nat.add_sub_cancel, h1, h2]
    exact h3
  have hrow : rowB (bars C) C.length = C.map B := by
    unfold rowB
    rw [cells_head C hC (fun p hp => (hc p hp).1), List.take_of_length_le (by rw [List.length_map]; exact Nat.le_refl _), Nat.sub_self, List.replicate_zero, List.append_nil]
  unfold splR
  rw [hln, hsp]
  simp only [Nat.add_sub_cancel, h2, als_below C hC, List.length_map]
  have ht : (lsT A C k).take A.length = A := by unfold lsT; exact List.take_left' rfl
  have hd : (lsT A C k).drop (A.length + 1 + 1) = List.replicate k (bars C) := by
    unfold lsT
    rw [show A.length + 1 + 1 = A.length + 2 by omega, List.drop_append, List.drop_eq_nil_of_le (by omega), List.nil_append, Nat.add_sub_cancel_left]
    rfl
  rw [ht]
  unfold rws
  rw [Nat.add_sub_cancel, h1, hrow, hd, List.map_replicate, hrow, List.replicate_succ]
/-- What stands ahead, each line with its end. -/
def aT (A : List (List UInt8)) : List UInt8 := (A.map (· ++ [10])).flatten
theorem aT_snoc (A : List (List UInt8)) (x : List UInt8) : aT (A ++ [x]) = aT A ++ (x ++ [10]) := by simp [aT]
theorem aT_join : ∀ A : List (List UInt8), A ≠ [] → aT A = Lib.join A [10] ++ [10]
  | [], h => absurd rfl h
  | [x], _ => by rw [Lib.join_one]; simp [aT]
  | x :: y :: r, _ => by
    have ih := aT_join (y :: r) (by simp)
    rw [Lib.join_cons, tail_join _ (by simp)]
    unfold aT at ih ⊢
    rw [List.map_cons, List.flatten_cons, ih]
    simp
theorem txT_eq (A C : List (List UInt8)) : ∀ k, txT A C k = aT A ++ bars C ++ [10] ++ below C ++ (List.replicate k (10 :: bars C)).flatten := by
  have h0 : ∀ k, Lib.join (bars C :: below C :: List.replicate k (bars C)) [10] = bars C ++ [10] ++ below C ++ (List.replicate k (10 :: bars C)).flatten := by
    intro k
    rw [Lib.join_cons]
    simp [Lib.joinTail]
  intro k
  unfold txT lsT
  by_cases hA : A = []
  · subst hA
    rw [List.nil_append, h0]
    simp [aT]
  · rw [join_app _ _ hA (by simp), h0, aT_join A hA]
    simp
theorem aT_len (l : List (List UInt8)) (n : Nat) (h : ∀ p ∈ l, p.length ≤ n) : (aT l).length ≤ l.length * (n + 1) := by
  induction l with
  | nil => simp [aT]
  | cons x l ih =>
    have hx := h x (by simp)
    have ih := ih (fun p hp => h p (by simp [hp]))
    have e : (aT (x :: l)).length = x.length + 1 + (aT l).length := by
      simp [aT]
      omega
    rw [e, List.length_cons, Nat.succ_mul]
    omega
theorem rep_snoc (k : Nat) (x : List UInt8) : (List.replicate (k + 1) x).flatten = (List.replicate k x).flatten ++ x := by
  rw [List.replicate_succ', List.flatten_append]
  simp
theorem rep_len (k : Nat) (x : List UInt8) : (List.replicate k x).flatten.length = k * x.length := by
  induction k with
  | zero => simp
  | succ k ih => rw [rep_snoc, List.length_append, ih, Nat.succ_mul]
section
variable (A C : List (List UInt8)) (n : Int) (hA10 : A.length ≤ 10) (hC10 : C.length ≤ 10) (hC : C ≠ []) (hA : ∀ p ∈ A, (lts p ∧ p ≠ []) ∧ p.length ≤ 50) (hc : ∀ p ∈ C, (lts p ∧ p ≠ []) ∧ p.length ≤ 50)
theorem tr_l6 (k : Nat) (hk : k ≤ 7) (i : Nat) (hi : i < k + 1) (hC10 : C.length ≤ 10) (hnext : Ev (fun r => PA.incipitlaw15_TableReads.l5 r (C.map B) true (List.replicate (k + 1) (C.map B)) (C.map fun _ => 1) ((i + 1 : Nat) : Int)) true) : ∀ (d j : Nat), j + d = C.length →
    Ev (fun r => PA.incipitlaw15_TableReads.l6 r (C.map B) true (List.replicate (k + 1) (C.map B)) (C.map fun _ => 1) (i : Int) (j : Int)) true := by
  intro d
  induction d with
  | zero =>
    intro j hj
    refine Ev.step (fun r => ?_) hnext
    simp only [PA.incipitlaw15_TableReads.l6]
    rw [if_neg (by rw [List.length_map]; omega), w64 (by omega) (by omega)]
    rfl
  | succ d ih =>
    intro j hj
    have hjl : j < C.length := by omega
    have hrd : PA.rd_L2 (List.replicate (k + 1) (C.map B)) (i : Int) = C.map B := by
      unfold PA.rd_L2
      rw [Int.toNat_natCast, List.getD_eq_getElem?_getD, List.getElem?_replicate, if_pos hi]
      rfl
    have hr1 : rd (C.map fun _ => (1 : Int)) (j : Int) = 1 := by
      unfold rd
      rw [Int.toNat_natCast, List.getD_eq_getElem?_getD, List.getElem?_map, List.getElem?_eq_getElem hjl]
      rfl
    refine Ev.step (fun r => ?_) (ih (j + 1) (by omega))
    simp only [PA.incipitlaw15_TableReads.l6]
    rw [if_pos (by rw [List.length_map]; omega), if_pos (by omega), if_pos (by rw [List.length_replicate]; omega), if_pos (by omega), hrd, if_pos (by rw [List.length_map]; omega), if_pos rfl, if_pos (by rw [List.length_map]; omega), if_pos hr1, w64 (by omega) (by omega)]
    rfl
theorem tr_l5 (k : Nat) (hk : k ≤ 7) (hC10 : C.length ≤ 10) : ∀ (d i : Nat), i + d = k + 1 → Ev (fun r => PA.incipitlaw15_TableReads.l5 r (C.map B) true (List.replicate (k + 1) (C.map B)) (C.map fun _ => 1) (i : Int)) true := by
  intro d
  induction d with
  | zero =>
    intro i hi
    refine Ev.step (f := fun _ => some true) (fun r => ?_) (Ev.now _)
    simp only [PA.incipitlaw15_TableReads.l5]
    rw [if_neg (by rw [List.length_replicate]; omega)]
  | succ d ih =>
    intro i hi
    refine Ev.step (fun r => ?_) (tr_l6 C k hk i (by omega) hC10 (ih (i + 1) (by omega)) _ 0 (Nat.zero_add _))
    simp only [PA.incipitlaw15_TableReads.l5]
    rw [if_pos (by rw [List.length_replicate]; omega)]
    rfl
theorem tr_l4 (A C : List (List UInt8)) (hA10 : A.length ≤ 10) (hC10 : C.length ≤ 10) (hC : C ≠ []) (hA : ∀ p ∈ A, (lts p ∧ p ≠ []) ∧ p.length ≤ 50) (hc : ∀ p ∈ C, (lts p ∧ p ≠ []) ∧ p.length ≤ 50) (k : Nat) (hk : k ≤ 7) : ∀ (d i : Nat), i + d = k → Ev (fun r => PA.incipitlaw15_TableReads.l4 r (C.map B) true (B (bars C)) (B (aT A)) (B (txT A C i)) (k : Int) (i : Int)) true := by
  have hbl := bars_len C 50 (fun p hp => (hc p hp).2)
  have hbl2 : (below C).length ≤ 1 + C.length * 3 := by
    have := bars_len (C.map fun _ => [58, 45]) 2 (fun p hp => by obtain ⟨_, _, rfl⟩ := List.mem_map.1 hp; exact Nat.le_refl _)
    rwa [List.length_map] at this
  have hal := aT_len A 50 (fun p hp => (hA p hp).2)
  have htl : ∀ i, i ≤ 7 → (txT A C i).length ≤ 10000 := by
    intro i hi
    rw [txT_eq]
    simp only [List.length_append, List.length_cons, List.length_nil]
    rw [rep_len, List.length_cons]
    have h1 : i * ((bars C).length + 1) ≤ 7 * 512 := Nat.mul_le_mul hi (by omega)
    omega
  have hB10 : (⟨#[10]⟩ : ByteArray) = B [10] := rfl
  intro d
  induction d with
  | zero =>
    intro i hi
    obtain rfl : i = k := by omega
    have hz := htl i hk
    refine Ev.step (f := fun r => (PA.table_Split.f r (B (txT A C i))).bind fun bt354 => (if bt354.1.size + 1 ≤ 9223372036854775807 then (if (bt354.1 ++ (⟨#[10]⟩ : ByteArray)).toList = (B (aT A)).toList then (if (bt354.2.1.length : Int) = (wrap64 ((i : Int) + 1)) then (PA.incipitlaw15_TableReads.j7 r (C.map B) true bt354.2.1 bt354.2.2 ((bt354.2.2.length : Int) != ((C.map B).length : Int))) else (PA.incipitlaw15_TableReads.j7 r (C.map B) true bt354.2.1 bt354.2.2 true)) else (if (B (aT A)).toList = ([] : List UInt8) then (if (bt354.1.toList = ([] : List UInt8)) then (if (bt354.2.1.length : Int) = (wrap64 ((i : Int) + 1)) then (PA.incipitlaw15_TableReads.j7 r (C.map B) true bt354.2.1 bt354.2.2 ((bt354.2.2.length : Int) != ((C.map B).length : Int))) else (PA.incipitlaw15_TableReads.j7 r (C.map B) true bt354.2.1 bt354.2.2 true)) else (PA.incipitlaw15_TableReads.j7 r (C.map B) true bt354.2.1 bt354.2.2 true)) else (PA.incipitlaw15_TableReads.j7 r (C.map B) true bt354.2.1 bt354.2.2 true))) else (none))) (fun r => ?_) ?_
    · simp only [PA.incipitlaw15_TableReads.l4]
      rw [if_neg (by omega)]
    · refine Ev.bind (split_ev _ (by omega)) ?_
      rw [splR_T A C i hC (fun p hp => (hA p hp).1.1) (fun p hp => (hc p hp).1)]
      have hj : Ev (fun r => PA.incipitlaw15_TableReads.j7 r (C.map B) true (List.replicate (i + 1) (C.map B)) (C.map fun _ => 1) false) true := by
        refine Ev.step (fun r => ?_) (tr_l5 C i hk hC10 _ 0 (Nat.zero_add _))
        simp only [PA.incipitlaw15_TableReads.j7]
        rw [if_neg (by decide)]
        rfl
      have hjl : (Lib.join A [10]).length ≤ 10000 := by
        by_cases h0 : A = []
        · rw [h0]; exact Nat.zero_le _
        · have := congrArg List.length (aT_join A h0)
          rw [List.length_append] at this
          omega
      have c1 : (B (Lib.join A [10])).size + 1 ≤ 9223372036854775807 := by rw [B_size]; omega
      have c2 : ((List.replicate (i + 1) (C.map B)).length : Int) = wrap64 ((i : Int) + 1) := by rw [List.length_replicate, w64 (by omega) (by omega)]; rfl
      have c3 : (((C.map fun _ => (1 : Int)).length : Int) != ((C.map B).length : Int)) = false := by rw [List.length_map, List.length_map]; exact bne_eq_false_iff_eq.2 rfl
      simp only [c1, c2, c3, if_true]
      by_cases h0 : A = []
      · subst h0
        have c4 : ¬ (B (Lib.join [] [10]) ++ (⟨#[10]⟩ : ByteArray)).toList = (B (aT [])).toList := by rw [hB10, B_append, B_toList, B_toList]; decide
        have c5 : (B (aT [])).toList = ([] : List UInt8) := by rw [B_toList]; rfl
        have c6 : (B (Lib.join [] [10])).toList = ([] : List UInt8) := by rw [B_toList]; rfl
        refine Ev.congr (fun r => ?_) hj
        rw [if_neg c4, if_pos c5, if_pos c6]
      · have c4 : (B (Lib.join A [10]) ++ (⟨#[10]⟩ : ByteArray)).toList = (B (aT A)).toList := by rw [hB10, B_append, B_toList, B_toList, aT_join A h0]
        simp only [c4, if_true]
        exact hj
  | succ d ih =>
    intro i hi
    have hz := htl i (by omega)
    have e : B (txT A C i) ++ (⟨#[10]⟩ : ByteArray) ++ B (bars C) = B (txT A C (i + 1)) := by
      rw [hB10, B_append, B_append, txT_eq, txT_eq, rep_snoc]
      simp
    refine Ev.step (fun r => ?_) (ih (i + 1) (by omega))
    simp only [PA.incipitlaw15_TableReads.l4]
    rw [if_pos (by omega), if_pos (by rw [B_size]; omega), if_pos (by rw [hB10, B_append, B_size, B_size, List.length_append]; simp only [List.length_cons, List.length_nil]; omega), e, w64 (by omega) (by omega)]
    rfl
theorem tr_l3 (A C : List (List UInt8)) (n : Int) (hA10 : A.length ≤ 10) (hC10 : C.length ≤ 10) (hC : C ≠ []) (hA : ∀ p ∈ A, (lts p ∧ p ≠ []) ∧ p.length ≤ 50) (hc : ∀ p ∈ C, (lts p ∧ p ≠ []) ∧ p.length ≤ 50) : ∀ (d i : Nat), i + d = A.length → Ev (fun r => PA.incipitlaw15_TableReads.l3 r (A.map B) (C.map B) n true (B (bars C)) (B (below C)) (B (aT (A.take i))) (i : Int)) true := by
  have hbl := bars_len C 50 (fun p hp => (hc p hp).2)
  have hbl2 : (below C).length ≤ 1 + C.length * 3 := by
    have := bars_len (C.map fun _ => [58, 45]) 2 (fun p hp => by obtain ⟨_, _, rfl⟩ := List.mem_map.1 hp; exact Nat.le_refl _)
    rwa [List.length_map] at this
  have hB10 : (⟨#[10]⟩ : ByteArray) = B [10] := rfl
  intro d
  induction d with
  | zero =>
    intro i hi
    rw [List.take_of_length_le (by omega)]
    have hal := aT_len A 50 (fun p hp => (hA p hp).2)
    obtain ⟨k, hk1, hk2⟩ : ∃ k : Nat, Go.bits .and .i64 n 7 = (k : Int) ∧ k ≤ 7 := by
      have h1 : (BitVec.ofInt 64 (7 : Int)).toNat = 7 := by decide
      have h2 : (BitVec.ofInt 64 n &&& BitVec.ofInt 64 (7 : Int)).toNat ≤ 7 := by
        rw [BitVec.toNat_and, h1]
        exact Nat.and_le_right
      refine ⟨_, ?_, h2⟩
      show IntKind.i64.wrap ((BitVec.ofInt 64 n &&& BitVec.ofInt 64 (7 : Int)).toNat : Int) = _
      exact IntWalk.i64_in _ (by omega)
    have h := tr_l4 A C hA10 hC10 hC hA hc k hk2 k 0 (Nat.zero_add _)
    rw [txT_eq] at h
    simp only [List.replicate_zero, List.flatten_nil, List.append_nil] at h
    refine Ev.step (fun r => ?_) h
    simp only [PA.incipitlaw15_TableReads.l3]
    rw [if_neg (by rw [List.length_map]; omega), hB10, B_append, B_append, B_append, B_size, B_size, B_size, B_size, B_size]
    simp only [List.length_append, List.length_cons, List.length_nil]
    rw [if_pos (by omega), if_pos (by omega), if_pos (by omega), hk1]
    rfl
  | succ d ih =>
    intro i hi
    have hil : i < A.length := by omega
    have hrd : rdOf ByteArray.empty (A.map B) (i : Int) = B A[i] := getD_B i hil
    have hal := aT_len (A.take i) 50 (fun p hp => (hA p (List.mem_of_mem_take hp)).2)
    have hz := (hA _ (List.getElem_mem hil)).2
    have htk : A.take (i + 1) = A.take i ++ [A[i]] := by rw [List.take_append_getElem hil]
    have hn := ih (i + 1) (by omega)
    rw [htk, aT_snoc, ← List.append_assoc] at hn
    rw [List.length_take] at hal
    have hmin : min i A.length = i := by omega
    rw [hmin] at hal
    refine Ev.step (fun r => ?_) hn
    simp only [PA.incipitlaw15_TableReads.l3]
    rw [if_pos (by rw [List.length_map]; omega), if_pos (by omega), hrd, hB10, B_append, B_append, B_size, B_size, B_size, List.length_append, if_pos (by omega), if_pos (by omega), w64 (by omega) (by omega)]
    rfl
theorem tr_l2 (A C : List (List UInt8)) (n : Int) (hA10 : A.length ≤ 10) (hC10 : C.length ≤ 10) (hC : C ≠ []) (hA : ∀ p ∈ A, (lts p ∧ p ≠ []) ∧ p.length ≤ 50) (hc : ∀ p ∈ C, (lts p ∧ p ≠ []) ∧ p.length ≤ 50) : ∀ (d i : Nat), i + d = C.length → Ev (fun r => PA.incipitlaw15_TableReads.l2 r (A.map B) (C.map B) n true (B (bars (C.take i))) (B (below (C.take i))) (i : Int)) true := by
  have h4 : (⟨#[124]⟩ : ByteArray) = B [124] := rfl
  have h3 : (⟨#[58, 45, 124]⟩ : ByteArray) = B [58, 45, 124] := rfl
  intro d
  induction d with
  | zero =>
    intro i hi
    rw [List.take_of_length_le (by omega)]
    refine Ev.step (fun r => ?_) (tr_l3 A C n hA10 hC10 hC hA hc _ 0 (Nat.zero_add _))
    simp only [PA.incipitlaw15_TableReads.l2]
    rw [if_neg (by rw [List.length_map]; omega)]
    rfl
  | succ d ih =>
    intro i hi
    have hil : i < C.length := by omega
    have hrd : rdOf ByteArray.empty (C.map B) (i : Int) = B C[i] := getD_B i hil
    have hbl := bars_len (C.take i) 50 (fun p hp => (hc p (List.mem_of_mem_take hp)).2)
    have hbl2 : (below (C.take i)).length ≤ 1 + (C.take i).length * 3 := by
      have := bars_len ((C.take i).map fun _ => [58, 45]) 2 (fun p hp => by obtain ⟨_, _, rfl⟩ := List.mem_map.1 hp; exact Nat.le_refl _)
      rwa [List.length_map] at this
    rw [List.length_take] at hbl hbl2
    have hz := (hc _ (List.getElem_mem hil)).2
    have htk : C.take (i + 1) = C.take i ++ [C[i]] := by rw [List.take_append_getElem hil]
    have hn := ih (i + 1) (by omega)
    have hb2 : below (C.take i ++ [C[i]]) = below (C.take i) ++ [58, 45, 124] := by
      unfold below
      rw [List.map_append]
      exact bars_snoc _ _
    rw [htk, bars_snoc, hb2, ← List.append_assoc] at hn
    have hmin : min i C.length = i := by omega
    rw [hmin] at hbl hbl2
    refine Ev.step (fun r => ?_) hn
    simp only [PA.incipitlaw15_TableReads.l2]
    rw [if_pos (by rw [List.length_map]; omega), if_pos (by omega), hrd, h4, h3, B_append, B_append, B_append, B_size, B_size, B_size, B_size, List.length_append, if_pos (by omega), if_pos (by omega), if_pos (by omega), w64 (by omega) (by omega)]
    rfl
end
theorem tr_l0 (A C : List (List UInt8)) (n : Int) (hA10 : A.length ≤ 10) (hC10 : C.length ≤ 10) (hC : C ≠ []) : ∀ (d i : Nat), i + d = (A ++ C).length → (∀ p ∈ (A ++ C).take i, (lts p ∧ p ≠ []) ∧ p.length ≤ 50) →
    Ev (fun k => PA.incipitlaw15_TableReads.l0 k (A.map B) (C.map B) n true ((A ++ C).map B) (i : Int)) true := by
  have hall : (A ++ C).length ≤ 20 := by rw [List.length_append]; omega
  intro d
  induction d with
  | zero =>
    intro i hi ht
    rw [List.take_of_length_le (by omega)] at ht
    refine Ev.step (fun k => ?_) (tr_l2 A C n hA10 hC10 hC (fun p hp => ht p (List.mem_append_left _ hp)) (fun p hp => ht p (List.mem_append_right _ hp)) _ 0 (Nat.zero_add _))
    simp only [PA.incipitlaw15_TableReads.l0]
    rw [if_neg (by rw [List.length_map]; omega)]
    rfl
  | succ d ih =>
    intro i hi ht
    have hil : i < (A ++ C).length := by omega
    have hrd : rdOf ByteArray.empty ((A ++ C).map B) (i : Int) = B (A ++ C)[i] := getD_B i hil
    have hyes : Ev (fun k => PA.incipitlaw15_TableReads.j2 k (A.map B) (C.map B) n true ((A ++ C).map B) (i : Int) true) true := Ev.step (f := fun _ => some true) (fun k => by simp only [PA.incipitlaw15_TableReads.j2, if_true]) (Ev.now _)
    by_cases hnil : (A ++ C)[i] = []
    · refine Ev.step (fun k => ?_) hyes
      simp only [PA.incipitlaw15_TableReads.l0]
      rw [if_pos (by rw [List.length_map]; omega), if_pos (by omega), hrd, if_pos ((B_nil _).2 hnil)]
    · by_cases hz : ((B (A ++ C)[i]).size : Int) > 50
      · refine Ev.step (fun k => ?_) hyes
        simp only [PA.incipitlaw15_TableReads.l0]
        rw [if_pos (by rw [List.length_map]; omega), if_pos (by omega), hrd, if_neg (fun e => hnil ((B_nil _).1 e)), decide_eq_true hz]
      · have hz2 : (A ++ C)[i].length ≤ 50 := by rw [B_size] at hz; omega
        have htk : (A ++ C).take (i + 1) = (A ++ C).take i ++ [(A ++ C)[i]] := by rw [List.take_append_getElem hil]
        have hin : ∀ (e j : Nat), j + e = (A ++ C)[i].length → lts ((A ++ C)[i].take j) → Ev (fun k => PA.incipitlaw15_TableReads.l1 k (A.map B) (C.map B) n true ((A ++ C).map B) (i : Int) (j : Int)) true := by
          intro e
          induction e with
          | zero =>
            intro j hj hlt
            rw [List.take_of_length_le (by omega)] at hlt
            refine Ev.step (fun k => ?_) (ih (i + 1) (by omega) (fun p hp => by
              rw [htk] at hp
              rcases List.mem_append.1 hp with hp | hp
              · exact ht p hp
              · rw [List.mem_singleton.1 hp]; exact ⟨⟨hlt, hnil⟩, hz2⟩))
            simp only [PA.incipitlaw15_TableReads.l1]
            rw [if_pos (by omega), if_pos (by rw [List.length_map]; omega), hrd, if_neg (by rw [B_size]; omega), w64 (by omega) (by omega)]
            rfl
          | succ e ihe =>
            intro j hj hlt
            have hjl : j < (A ++ C)[i].length := by omega
            have hx := B_bt (A ++ C)[i] j hjl
            by_cases hc : 97 ≤ (A ++ C)[i][j].toNat ∧ (A ++ C)[i][j].toNat ≤ 122
            · refine Ev.step (fun k => ?_) (ihe (j + 1) (by omega) (fun x hx2 => by
                rw [← List.take_append_getElem hjl] at hx2
                rcases List.mem_append.1 hx2 with h | h
                · exact hlt x h
                · rw [List.mem_singleton.1 h]; exact hc))
              simp only [PA.incipitlaw15_TableReads.l1]
              rw [if_pos (by omega), if_pos (by rw [List.length_map]; omega), hrd, if_pos (by rw [B_size]; omega), if_pos (by omega), hx, if_neg (by omega), if_neg (by omega), w64 (by omega) (by omega)]
              rfl
            · refine Ev.step (f := fun _ => some true) (fun k => ?_) (Ev.now _)
              simp only [PA.incipitlaw15_TableReads.l1]
              rw [if_pos (by omega), if_pos (by rw [List.length_map]; omega), hrd, if_pos (by rw [B_size]; omega), if_pos (by omega), hx]
              by_cases h1 : ((A ++ C)[i][j].toNat : Int) < 97
              · rw [if_pos h1]
              · rw [if_neg h1, if_pos (by omega)]
        refine Ev.step (f := fun k => PA.incipitlaw15_TableReads.j2 k (A.map B) (C.map B) n true ((A ++ C).map B) (i : Int) false) (fun k => ?_) (Ev.step (fun k => ?_) (hin _ 0 (Nat.zero_add _) (by intro x hx; simp at hx)))
        · simp only [PA.incipitlaw15_TableReads.l0]
          rw [if_pos (by rw [List.length_map]; omega), if_pos (by omega), hrd, if_neg (fun e => hnil ((B_nil _).1 e)), decide_eq_false hz]
        · simp only [PA.incipitlaw15_TableReads.j2]
          rw [if_neg (by decide)]
          rfl
theorem toB (l : List ByteArray) : ∃ L : List (List UInt8), l = L.map B := ⟨l.map (·.data.toList), by
  rw [List.map_map]
  conv => lhs; rw [← List.map_id l]
  exact List.map_congr_left fun x _ => (B_eta x).symm⟩
theorem TableReads : ∀ (l0 : List ByteArray) (l1 : List ByteArray) (a2 : Int), l0.length * 16 ≤ 140737488351232 → (∀ x ∈ l0, x.size ≤ maxLen) → l1.length * 16 ≤ 140737488351232 → (∀ x ∈ l1, x.size ≤ maxLen) → (Lit.int .i64 a2).wf = true → ∃ k, PA.incipitlaw15_TableReads.f k l0 l1 a2 = some true := by
  intro l0 l1 n _ _ _ _ _
  apply Ev.rounds
  obtain ⟨A, rfl⟩ := toB l0
  obtain ⟨C, rfl⟩ := toB l1
  unfold PA.incipitlaw15_TableReads.f
  refine Ev.bind awake_ev ?_
  have hyes : Ev (fun k => PA.incipitlaw15_TableReads.j0 k (A.map B) (C.map B) n true true) true := Ev.step (f := fun _ => some true) (fun k => by simp only [PA.incipitlaw15_TableReads.j0, if_true]) (Ev.now _)
  by_cases h0 : ((C.map B).length : Int) = 0
  · refine Ev.congr (fun k => ?_) hyes
    rw [if_pos h0]
  · by_cases h1 : ((C.map B).length : Int) > 10
    · refine Ev.congr (fun k => ?_) hyes
      rw [if_neg h0, if_pos h1]
    · by_cases h2 : ((A.map B).length : Int) > 10
      · refine Ev.congr (fun k => ?_) hyes
        rw [if_neg h0, if_neg h1, decide_eq_true h2]
      · refine Ev.congr (f := fun k => PA.incipitlaw15_TableReads.j0 k (A.map B) (C.map B) n true false) (fun k => by rw [if_neg h0, if_neg h1, decide_eq_false h2]) ?_
        rw [List.length_map] at h0 h1 h2
        have hC : C ≠ [] := by rintro rfl; exact h0 rfl
        have h := tr_l0 A C n (by omega) (by omega) hC _ 0 (Nat.zero_add _) (by simp)
        refine Ev.step (fun k => ?_) h
        simp only [PA.incipitlaw15_TableReads.j0]
        rw [if_neg (by decide), Option.bind_some, if_pos (by rw [List.length_map]; simp; omega), List.nil_append, Option.bind_some, if_pos (by rw [List.length_map, List.length_map]; omega), List.map_append]
        rfl
end Go.Proofs.YthbadcdiagcfkaaDoor.Pure
