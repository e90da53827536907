/-
  Plain functions for the layer table (a line's cells), and that the printed functions compute them. Condition: a text of at most 2^20 bytes.
-/
import Derived.Test.YthbadcdiagcfkaaDoorPTr
import Derived.Test.YthbadcdiagcfkaaDoorPAx4
namespace Go.Proofs.YthbadcdiagcfkaaDoor.Pl
open Go.RowKit Go.Proofs.YthbadcdiagcfkaaDoorW.PrintWords Go.Proofs.YthbadcdiagcfkaaDoorW.PrintMore

/-- A cell's text; a line's cells. -/
def cel (p : List UInt8) : List UInt8 := tl (tr (PA.unb p))
def cutC (c : List UInt8) : List UInt8 := if Lib.hasSuffix c [92, 124] = true then c else Lib.trimSuffix c [124]
def cells (s : List UInt8) : List (List UInt8) := (PA.prt [] 0 (PA.cutB s)).map cel
theorem cells_f (s : List UInt8) (h : s.length ≤ 1048576) : PA.table_Cells.f (B s) = some ((cells s).map B) := by
  unfold PA.table_Cells.f
  rw [if_pos (by rw [B_size]; exact h), B_data]
  unfold cells
  rw [List.map_map]
  rfl
theorem trim_ev (s : List UInt8) (h : s.length ≤ 1048576) : Ev (fun k => PA.incipitref15_trim.f k (B s)) (B (tl (tr s))) := by
  unfold PA.incipitref15_trim.f
  exact Ev.bind (reft_rev s h) (Ev.bind (reft_lev (tr s) (by have := tr_len s; omega)) (Ev.now _))
/-- The reference's pieces: what has come, the byte ahead, what is left. -/
def rc : List UInt8 → UInt8 → List UInt8 → List (List UInt8)
  | b, _, [] => [b]
  | b, prev, x :: t => if x = 124 then if prev = 92 then rc (b.dropLast ++ [124]) x t else b :: rc [] x t else rc (b ++ [x]) x t
theorem unb_snoc (x : UInt8) : ∀ (c : List UInt8), (x = 124 → c.getLast? ≠ some 92) → PA.unb (c ++ [x]) = PA.unb c ++ [x]
  | [], _ => rfl
  | [y], h => by
    have : ¬ (y = 92 ∧ x = 124) := fun e => h e.2 (by rw [e.1]; rfl)
    simp [PA.unb, this]
  | y :: z :: t, h => by
    simp only [List.cons_append, PA.unb]
    by_cases hp : y = 92 ∧ z = 124
    · rw [if_pos hp, if_pos hp, List.cons_append]
      congr 1
      cases t with
      | nil => rfl
      | cons u t => exact unb_snoc x (u :: t) (fun e => by have := h e; simpa using this)
    · rw [if_neg hp, if_neg hp, List.cons_append]
      congr 1
      exact unb_snoc x (z :: t) (fun e => by have := h e; simpa using this)
theorem unb_bar : ∀ (c : List UInt8), PA.unb (c ++ [92, 124]) = PA.unb c ++ [124]
  | [] => rfl
  | [y] => by
    simp [PA.unb]
  | y :: z :: t => by
    simp only [List.cons_append, PA.unb]
    by_cases hp : y = 92 ∧ z = 124
    · rw [if_pos hp, if_pos hp, List.cons_append]
      congr 1
      exact unb_bar t
    · rw [if_neg hp, if_neg hp, List.cons_append]
      congr 1
      exact unb_bar (z :: t)
theorem rc_prt : ∀ (t cur : List UInt8) (prev : UInt8), (prev = 92 → cur.getLast? = some 92) → (prev ≠ 92 → cur.getLast? ≠ some 92) → (PA.prt cur prev t).map PA.unb = rc (PA.unb cur) prev t
  | [], _, _, _, _ => rfl
  | x :: t, cur, prev, h1, h2 => by
    unfold PA.prt rc
    by_cases hx : x = 124
    · subst hx
      by_cases hp : prev = 92
      · subst hp
        have hl := h1 rfl
        obtain ⟨c, rfl⟩ : ∃ c, cur = c ++ [92] := ⟨cur.dropLast, by
          have hne : cur ≠ [] := by rintro rfl; cases hl
          have := List.dropLast_concat_getLast hne
          rw [List.getLast?_eq_some_getLast hne] at hl
          rw [Option.some.inj hl] at this
          exact this.symm⟩
        rw [if_neg (by simp), if_pos rfl, if_pos rfl, List.append_assoc]
        have hu : PA.unb (c ++ [92]) = PA.unb c ++ [92] := unb_snoc 92 c (fun e => absurd e (by decide))
        have ih := rc_prt t (c ++ [92, 124]) 124 (fun e => absurd e (by decide)) (by simp)
        rw [unb_bar] at ih
        rw [hu, List.dropLast_concat]
        exact ih
      · rw [if_pos ⟨rfl, hp⟩, if_pos rfl, if_neg hp, List.map_cons]
        congr 1
        exact rc_prt t [] 124 (fun e => absurd e (by decide)) (by simp)
    · rw [if_neg (fun e => hx e.1), if_neg hx, ← unb_snoc x cur (fun e => absurd e hx)]
      exact rc_prt t (cur ++ [x]) x (fun e => by simp [e]) (fun e => by simp [e])
/-- Bytes as the whole numbers that they are. -/
def nm (b : List UInt8) : List Int := b.map fun x => (x.toNat : Int)
theorem nm_str (b : List UInt8) : strOfNums (nm b) = B b := by
  unfold strOfNums nm B
  rw [List.map_map]
  congr 2
  apply List.ext_getElem
  · simp
  · intro i h1 h2
    simp
theorem nm_snoc (b : List UInt8) (x : UInt8) : nm b ++ [(x.toNat : Int)] = nm (b ++ [x]) := by simp [nm]
theorem nm_len (b : List UInt8) : (nm b).length = b.length := by simp [nm]
theorem nm_set (b : List UInt8) (h : b ≠ []) : (nm b).set (b.length - 1) 124 = nm (b.dropLast ++ [124]) := by
  obtain ⟨c, y, rfl⟩ : ∃ c y, b = c ++ [y] := ⟨b.dropLast, b.getLast h, (List.dropLast_concat_getLast h).symm⟩
  rw [List.dropLast_concat, nm, List.map_append, List.set_append_right _ _ (by simp)]
  simp [nm]
/-- The byte ahead of a place. -/
def pv (s : List UInt8) (i : Nat) : UInt8 := if i = 0 then 0 else s.getD (i - 1) 0
theorem pv_succ (s : List UInt8) (i : Nat) (h : i < s.length) : pv s (i + 1) = s[i] := by
  unfold pv
  rw [if_neg (by omega), Nat.add_sub_cancel, List.getD_eq_getElem?_getD, List.getElem?_eq_getElem h]
  rfl
theorem rcl (s : List UInt8) (hs : s.length ≤ 1048576) : ∀ (d i : Nat) (b : List UInt8) (out : List (List UInt8)), i + d = s.length → b.length ≤ i → out.length ≤ i → (pv s i = 92 → b ≠ []) →
    Ev (fun k => PA.incipitref15_Cells.l0 k (B s) (out.map B) (nm b) (i : Int)) ((out ++ (rc b (pv s i) (s.drop i)).map (fun p => tl (tr p))).map B) := by
  intro d
  induction d with
  | zero =>
    intro i b out hi hb ho _
    rw [List.drop_eq_nil_of_le (by omega)]
    refine Ev.step (f := fun k => (PA.incipitref15_trim.f k (B b)).bind fun t => if (out.map B).length < 8796093022208 then some (out.map B ++ [t]) else none) (fun k => ?_) ?_
    · simp only [PA.incipitref15_Cells.l0]
      rw [if_neg (by rw [B_size]; omega), nm_str]
    · refine Ev.bind (trim_ev b (by omega)) ?_
      rw [if_pos (by rw [List.length_map]; omega), rc]
      simp only [List.map_append, List.map_cons, List.map_nil]
      exact Ev.now _
  | succ d ih =>
    intro i b out hi hb ho hpb
    have hil : i < s.length := by omega
    have hx := B_bt s i hil
    have hd : s.drop i = s[i] :: s.drop (i + 1) := List.drop_eq_getElem_cons hil
    have hp := pv_succ s i hil
    have hw : wrap64 ((i : Int) + 1) = ((i + 1 : Nat) : Int) := w64 (by omega) (by omega)
    have h124 : ((s[i].toNat : Int) = 124) ↔ s[i] = 124 := u8_eq s[i] 124 (by omega)
    rw [hd]
    unfold rc
    by_cases hc : s[i] = 124
    · rw [if_pos hc]
      have hx4 : bt (B s) (i : Int) = 124 := by rw [hx]; exact h124.2 hc
      by_cases h9 : pv s i = 92
      · rw [if_pos h9]
        have hbn := hpb h9
        have hbl := List.length_pos_iff.2 hbn
        have hi0 : i ≠ 0 := by intro e; subst e; exact absurd (show (0 : UInt8) = 92 from h9) (by decide)
        have hil1 : i - 1 < s.length := by omega
        have e9 : s[i - 1] = 92 := by
          unfold pv at h9
          rw [if_neg hi0, List.getD_eq_getElem?_getD, List.getElem?_eq_getElem hil1] at h9
          exact h9
        have hx1 : bt (B s) ((i - 1 : Nat) : Int) = 92 := by rw [B_bt s (i - 1) hil1]; exact (u8_eq _ 92 (by omega)).2 e9
        have hw1 : wrap64 ((i : Int) - 1) = ((i - 1 : Nat) : Int) := by rw [w64 (by omega) (by omega)]; omega
        have hn := ih (i + 1) (b.dropLast ++ [124]) out (by omega) (by rw [List.length_append, List.length_dropLast]; simp; omega) (by omega) (fun e => by simp)
        rw [hp] at hn
        refine Ev.step (fun k => ?_) hn
        simp only [PA.incipitref15_Cells.l0]
        have hl1 : wrap64 (((nm b).length : Int) - 1) = ((b.length - 1 : Nat) : Int) := by rw [nm_len, w64 (by omega) (by omega)]; omega
        rw [if_pos (by rw [B_size]; omega), if_pos (by omega), if_pos hx4, if_pos (by omega), hw1, if_pos (by omega), if_pos (by rw [B_size]; omega), if_pos hx1, hl1, if_pos (by omega), if_pos (by rw [nm_len]; omega), Int.toNat_natCast, nm_set b hbn, hw]
      · rw [if_neg h9, List.map_cons]
        have hn := ih (i + 1) [] (out ++ [tl (tr b)]) (by omega) (by simp) (by rw [List.length_append]; simp; omega) (fun e => by rw [hp, hc] at e; exact absurd e (by decide))
        rw [hp, List.append_assoc] at hn
        refine Ev.step (f := fun k => (PA.incipitref15_trim.f k (B b)).bind fun t => if (out.map B).length < 8796093022208 then PA.incipitref15_Cells.l0 k (B s) (out.map B ++ [t]) ([] : List Int) ((i + 1 : Nat) : Int) else none) (fun k => ?_) ?_
        · simp only [PA.incipitref15_Cells.l0]
          rw [if_pos (by rw [B_size]; omega), if_pos (by omega), if_pos hx4, nm_str, hw]
          by_cases hi0 : i = 0
          · rw [if_neg (by omega)]
          · have hil1 : i - 1 < s.length := by omega
            have e9 : s[i - 1] ≠ 92 := by
              unfold pv at h9
              rw [if_neg hi0, List.getD_eq_getElem?_getD, List.getElem?_eq_getElem hil1] at h9
              exact h9
            have hx1 : ¬ bt (B s) ((i - 1 : Nat) : Int) = 92 := by rw [B_bt s (i - 1) hil1]; exact fun e => e9 ((u8_eq _ 92 (by omega)).1 e)
            have hw1 : wrap64 ((i : Int) - 1) = ((i - 1 : Nat) : Int) := by rw [w64 (by omega) (by omega)]; omega
            rw [if_pos (by omega), hw1, if_pos (by omega), if_pos (by rw [B_size]; omega), if_neg hx1]
        · refine Ev.bind (trim_ev b (by omega)) ?_
          refine Ev.congr (fun k => ?_) hn
          rw [if_pos (by rw [List.length_map]; omega), List.map_append]
          rfl
    · rw [if_neg hc]
      have hn := ih (i + 1) (b ++ [s[i]]) out (by omega) (by rw [List.length_append]; simp; omega) (by omega) (fun e => by simp)
      rw [hp] at hn
      refine Ev.step (fun k => ?_) hn
      simp only [PA.incipitref15_Cells.l0]
      rw [if_pos (by rw [B_size]; omega), if_pos (by omega), if_neg (by rw [hx]; exact fun e => hc (h124.1 e)), if_pos (by rw [nm_len]; omega), hx, nm_snoc, hw]
theorem cutC_two (q : List UInt8) (y x : UInt8) : cutC (q ++ [y, x]) = if x = 124 ∧ y ≠ 92 then q ++ [y] else q ++ [y, x] := by
  have h1 : Lib.hasSuffix (q ++ [y, x]) [92, 124] = decide (x = 124 ∧ y = 92) := by
    simp only [Lib.hasSuffix, List.isSuffixOf, List.isPrefixOf, List.reverse_append, List.reverse_cons, List.reverse_nil, List.nil_append, List.cons_append, Bool.and_true]
    rw [Bool.eq_iff_iff]
    simp only [Bool.and_eq_true, beq_iff_eq, decide_eq_true_eq]
    exact ⟨fun h => ⟨h.1.symm, h.2.symm⟩, fun h => ⟨h.1.symm, h.2.symm⟩⟩
  have h2 : Lib.hasSuffix (q ++ [y, x]) [124] = decide (x = 124) := by
    simp only [Lib.hasSuffix, List.isSuffixOf, List.isPrefixOf, List.reverse_append, List.reverse_cons, List.reverse_nil, List.nil_append, List.cons_append, Bool.and_true]
    rw [Bool.eq_iff_iff]
    simp only [beq_iff_eq, decide_eq_true_eq]
    exact eq_comm
  unfold cutC Lib.trimSuffix
  rw [h1, h2]
  by_cases hx : x = 124
  · by_cases hy : y = 92
    · simp [hx, hy]
    · simp only [hx, hy, and_false, decide_false, decide_true, if_true, ne_eq, not_false_eq_true, and_true]
      rw [if_neg (by decide), List.length_append, show q.length + [y, 124].length - [(124 : UInt8)].length = (q ++ [y]).length by simp, show q ++ [y, 124] = (q ++ [y]) ++ [124] by simp, List.take_left]
  · simp [hx]
theorem cutC_one (x : UInt8) : cutC [x] = if x = 124 then [] else [x] := by
  have h1 : Lib.hasSuffix [x] [92, 124] = false := by simp [Lib.hasSuffix, List.isSuffixOf, List.isPrefixOf]
  have h2 : Lib.hasSuffix [x] [124] = decide (x = 124) := by
    simp only [Lib.hasSuffix, List.isSuffixOf, List.isPrefixOf, List.reverse_cons, List.reverse_nil, List.nil_append, Bool.and_true]
    rw [Bool.eq_iff_iff]
    simp only [beq_iff_eq, decide_eq_true_eq]
    exact eq_comm
  unfold cutC Lib.trimSuffix
  rw [h1, h2]
  by_cases hx : x = 124 <;> simp [hx]
theorem rcj3 (s : List UInt8) (hs : s.length ≤ 1048576) : Ev (fun k => PA.incipitref15_Cells.j3 k (B s)) (((PA.prt [] 0 s).map cel).map B) := by
  have h := rcl s hs s.length 0 [] [] (by omega) (by simp) (by simp) (fun e => by cases e)
  have h2 := rc_prt s [] 0 (fun e => absurd e (by decide)) (by simp)
  rw [List.drop_zero, List.nil_append, show rc [] (pv s 0) s = (PA.prt [] 0 s).map PA.unb from h2.symm, List.map_map (f := PA.unb)] at h
  exact Ev.step (fun k => rfl) h
theorem rcj1 (c : List UInt8) (hs : c.length ≤ 1048576) : Ev (fun k => PA.incipitref15_Cells.j1 k (B c)) (((PA.prt [] 0 (cutC c)).map cel).map B) := by
  rcases List.eq_nil_or_concat c with rfl | ⟨r, x, rfl⟩
  · refine Ev.step (f := fun k => PA.incipitref15_Cells.j2 k (B []) ((B []).size : Int) false) (fun k => ?_) (Ev.step (fun k => ?_) (rcj3 [] (by simp)))
    · simp only [PA.incipitref15_Cells.j1]
      rw [if_neg (by rw [B_size]; simp)]
    · simp only [PA.incipitref15_Cells.j2]
      rw [if_neg (by decide)]
  · rw [List.concat_eq_append] at hs ⊢
    have hl : (r ++ [x]).length = r.length + 1 := by simp
    have hw1 : wrap64 (((B (r ++ [x])).size : Int) - 1) = (r.length : Int) := by rw [B_size, hl, w64 (by omega) (by omega)]; omega
    have hx : bt (B (r ++ [x])) (r.length : Int) = (x.toNat : Int) := by rw [B_bt _ r.length (by omega)]; simp
    have h124 : ((x.toNat : Int) = 124) ↔ x = 124 := u8_eq x 124 (by omega)
    have hcut : Ev (fun k => PA.incipitref15_Cells.j2 k (B (r ++ [x])) ((B (r ++ [x])).size : Int) true) (((PA.prt [] 0 r).map cel).map B) := by
      refine Ev.step (fun k => ?_) (rcj3 r (by omega))
      simp only [PA.incipitref15_Cells.j2]
      rw [if_pos trivial, hw1, if_pos (by omega), if_pos (by rw [B_size]; omega), Int.toNat_natCast, B_to, List.take_left' rfl]
    have hno : Ev (fun k => PA.incipitref15_Cells.j2 k (B (r ++ [x])) ((B (r ++ [x])).size : Int) false) (((PA.prt [] 0 (r ++ [x])).map cel).map B) := by
      refine Ev.step (fun k => ?_) (rcj3 (r ++ [x]) hs)
      simp only [PA.incipitref15_Cells.j2]
      rw [if_neg (by decide)]
    by_cases hc : x = 124
    · rcases List.eq_nil_or_concat r with rfl | ⟨q, y, rfl⟩
      · rw [List.nil_append] at *
        rw [cutC_one, if_pos hc]
        refine Ev.step (fun k => ?_) hcut
        simp only [PA.incipitref15_Cells.j1]
        rw [if_pos (by rw [B_size]; simp), hw1, if_pos (by omega), if_pos (by rw [B_size]; simp), if_pos (by rw [hx]; exact h124.2 hc), if_neg (by rw [B_size]; simp)]
        rfl
      · rw [List.concat_eq_append] at *
        have hl2 : (q ++ [y]).length = q.length + 1 := by simp
        have hw2 : wrap64 (((B (q ++ [y] ++ [x])).size : Int) - 2) = (q.length : Int) := by rw [B_size, hl, hl2, w64 (by omega) (by omega)]; omega
        have hy : bt (B (q ++ [y] ++ [x])) (q.length : Int) = (y.toNat : Int) := by rw [B_bt _ q.length (by omega)]; simp
        have h92 : ((y.toNat : Int) = 92) ↔ y = 92 := u8_eq y 92 (by omega)
        have e2 : q ++ [y] ++ [x] = q ++ [y, x] := by simp
        by_cases hy9 : y = 92
        · rw [show cutC (q ++ [y] ++ [x]) = q ++ [y] ++ [x] by rw [e2, cutC_two, if_neg (fun e => e.2 hy9)]]
          refine Ev.step (fun k => ?_) hno
          simp only [PA.incipitref15_Cells.j1]
          rw [if_pos (by rw [B_size]; omega), hw1, if_pos (by omega), if_pos (by rw [B_size]; omega), if_pos (by rw [hx]; exact h124.2 hc), if_pos (by rw [B_size]; omega), hw2, if_pos (by omega), if_pos (by rw [B_size]; omega), hy, beq_iff_eq.2 (h92.2 hy9)]
          rfl
        · rw [show cutC (q ++ [y] ++ [x]) = q ++ [y] by rw [e2, cutC_two, if_pos ⟨hc, hy9⟩]]
          refine Ev.step (fun k => ?_) hcut
          simp only [PA.incipitref15_Cells.j1]
          rw [if_pos (by rw [B_size]; omega), hw1, if_pos (by omega), if_pos (by rw [B_size]; omega), if_pos (by rw [hx]; exact h124.2 hc), if_pos (by rw [B_size]; omega), hw2, if_pos (by omega), if_pos (by rw [B_size]; omega), hy, beq_eq_false_iff_ne.2 (fun e => hy9 (h92.1 e))]
          rfl
    · have e1 : cutC (r ++ [x]) = r ++ [x] := by
        rcases List.eq_nil_or_concat r with rfl | ⟨q, y, rfl⟩
        · rw [List.nil_append, cutC_one, if_neg hc]
        · rw [List.concat_eq_append, show q ++ [y] ++ [x] = q ++ [y, x] by simp, cutC_two, if_neg (fun e => hc e.1)]
      rw [e1]
      refine Ev.step (fun k => ?_) hno
      simp only [PA.incipitref15_Cells.j1]
      rw [if_pos (by rw [B_size]; omega), hw1, if_pos (by omega), if_pos (by rw [B_size]; omega), if_neg (by rw [hx]; exact fun e => hc (h124.1 e))]
theorem cut1_t (s : List UInt8) : PA.cut1 s = Lib.trimPrefix (tl (tr s)) [124] := rfl
theorem rcells_ev (s : List UInt8) (hs : s.length ≤ 1048576) : Ev (fun k => PA.incipitref15_Cells.f k (B s)) ((cells s).map B) := by
  unfold PA.incipitref15_Cells.f
  refine Ev.bind (trim_ev s hs) ?_
  have hlen : (tl (tr s)).length ≤ 1048576 := by have h1 := tl_len (tr s); have h2 := tr_len s; omega
  have hcut : (PA.cut1 s).length ≤ 1048576 := by
    have := PA.cut1_len s
    omega
  have hj := rcj1 (PA.cut1 s) hcut
  have hcl : cells s = (PA.prt [] 0 (cutC (PA.cut1 s))).map cel := rfl
  rw [hcl]
  rw [cut1_t] at hj ⊢
  generalize tl (tr s) = t at hlen hj ⊢
  cases t with
  | nil =>
    refine Ev.congr (f := fun k => PA.incipitref15_Cells.j0 k (B []) false) (fun k => by rw [if_pos (B_toList _)]) (Ev.step (fun k => ?_) hj)
    simp only [PA.incipitref15_Cells.j0]
    rw [if_neg (by decide)]
    rfl
  | cons x t =>
    have h124 : ((x.toNat : Int) = 124) ↔ x = 124 := u8_eq x 124 (by omega)
    have hx : bt (B (x :: t)) 0 = (x.toNat : Int) := B_bt (x :: t) 0 (by simp)
    have hp : Lib.hasPrefix (x :: t) [124] = decide (x = 124) := by
      simp only [Lib.hasPrefix, List.isPrefixOf, Bool.and_true]
      rw [Bool.eq_iff_iff]
      simp only [beq_iff_eq, decide_eq_true_eq]
      exact eq_comm
    refine Ev.congr (f := fun k => PA.incipitref15_Cells.j0 k (B (x :: t)) ((x.toNat : Int) == 124)) (fun k => by rw [if_neg (by rw [B_toList]; simp), if_pos (by rw [B_size]; simp), hx]) ?_
    unfold Lib.trimPrefix at hj ⊢
    rw [hp] at hj ⊢
    by_cases hc : x = 124
    · rw [decide_eq_true hc, if_pos rfl] at hj ⊢
      refine Ev.step (fun k => ?_) hj
      simp only [PA.incipitref15_Cells.j0]
      rw [if_pos (beq_iff_eq.2 (h124.2 hc)), if_pos (by rw [B_size]; simp; omega), B_from (x :: t) 1 _ (B_size _)]
      rfl
    · rw [decide_eq_false hc, if_neg (by decide)] at hj ⊢
      refine Ev.step (fun k => ?_) hj
      simp only [PA.incipitref15_Cells.j0]
      rw [if_neg (fun e => hc (h124.1 (beq_iff_eq.1 e)))]
end Go.Proofs.YthbadcdiagcfkaaDoor.Pl
